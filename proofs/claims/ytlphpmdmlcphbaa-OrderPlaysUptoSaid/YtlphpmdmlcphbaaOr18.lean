/- Seat E: plain: least names; what is reached; an order without circles. -/
import Derived.Test.YtlphpmdmlcphbaaOr17
namespace Go.Proofs.Ytlphpmdmlcphbaa.Or
open Go Go.RowKit Go.Proofs.Ytlphpmdmlcphbaa.Mem Go.Proofs.YtlphpmdmlcphbaaW.PrintWords Go.Maps Go.Proofs.Ytlphpmdmlcphbaa.Om
set_option linter.unusedVariables false
set_option linter.unusedSimpArgs false
set_option maxRecDepth 100000
set_option maxHeartbeats 400000
theorem less_eq (x y : ByteArray) : Op.bytesLess x.toList y.toList = decide (toL x < toL y) := by
  rw [bytesLess_eq, Lib.toList_data, Lib.toList_data]; rfl
theorem mn2_eq (x y : ByteArray) : mn2 x y = if toL x ≤ toL y then x else y := by
  unfold mn2
  rw [less_eq]
  by_cases h : toL x ≤ toL y
  · rw [if_pos h]
    by_cases h2 : toL x < toL y
    · rw [decide_eq_true h2]; rfl
    · have : x = y := toL_inj (List.le_antisymm h (List.not_lt.1 h2))
      subst this
      simp
  · rw [if_neg h]
    have h2 : ¬ toL x < toL y := fun h2 => h (List.le_of_lt h2)
    rw [decide_eq_false h2]
    have h3 : ¬ x = y := fun e => h (by rw [e]; exact List.le_refl _)
    rw [tl_false h3]
    rfl
theorem foldl_mn : ∀ (b : List ByteArray) (x : ByteArray), (b.foldl mn2 x = x ∨ b.foldl mn2 x ∈ b) ∧ toL (b.foldl mn2 x) ≤ toL x ∧ ∀ y ∈ b, toL (b.foldl mn2 x) ≤ toL y
  | [], x => ⟨.inl rfl, List.le_refl _, fun y hy => by cases hy⟩
  | z :: r, x => by
    obtain ⟨h1, h2, h3⟩ := foldl_mn r (mn2 x z)
    rw [List.foldl_cons]
    have hm : (mn2 x z = x ∨ mn2 x z = z) ∧ toL (mn2 x z) ≤ toL x ∧ toL (mn2 x z) ≤ toL z := by
      rw [mn2_eq]
      by_cases h : toL x ≤ toL z
      · rw [if_pos h]; exact ⟨.inl rfl, List.le_refl _, h⟩
      · rw [if_neg h]; exact ⟨.inr rfl, (List.le_total _ _).resolve_left h, List.le_refl _⟩
    refine ⟨?_, List.le_trans h2 hm.2.1, fun y hy => ?_⟩
    · rcases h1 with h1 | h1
      · rw [h1]
        rcases hm.1 with h | h
        · exact .inl h
        · rw [h]; exact .inr (by simp)
      · exact .inr (List.mem_cons_of_mem _ h1)
    · rcases List.mem_cons.1 hy with h | h
      · rw [h]; exact List.le_trans h2 hm.2.2
      · exact h3 y h
theorem mnL_spec {b : List ByteArray} (h : b ≠ []) : mnL b ∈ b ∧ ∀ y ∈ b, toL (mnL b) ≤ toL y := by
  cases b with
  | nil => exact absurd rfl h
  | cons x r =>
    obtain ⟨h1, h2, h3⟩ := foldl_mn r x
    have e : mnL (x :: r) = r.foldl mn2 x := rfl
    rw [e]
    refine ⟨?_, fun y hy => ?_⟩
    · rcases h1 with h1 | h1
      · rw [h1]; simp
      · exact List.mem_cons_of_mem _ h1
    · rcases List.mem_cons.1 hy with h | h
      · rw [h]; exact h2
      · exact h3 y h
theorem mnL_unique {b : List ByteArray} {x : ByteArray} (hx : x ∈ b) (hm : ∀ y ∈ b, toL x ≤ toL y) : mnL b = x := by
  have hne : b ≠ [] := fun e => by rw [e] at hx; cases hx
  obtain ⟨h1, h2⟩ := mnL_spec hne
  exact toL_inj (List.le_antisymm (h2 x hx) (hm _ h1))
theorem mnL_congr {b c : List ByteArray} (h : ∀ x, x ∈ b ↔ x ∈ c) (hb : b ≠ []) : mnL b = mnL c := by
  obtain ⟨h1, h2⟩ := mnL_spec hb
  exact (mnL_unique ((h _).1 h1) (fun y hy => h2 y ((h y).2 hy))).symm
theorem srt_congr {S T : List ByteArray} (h : ∀ x, x ∈ S ↔ x ∈ T) : srt S = srt T := by
  have hp : (nub S).Perm (nub T) := (List.perm_ext_iff_of_nodup (nub_nodup S) (nub_nodup T)).2 fun x => by rw [mem_nub, mem_nub]; exact h x
  unfold srt
  rw [mergeSort_of_perm (hp.map toL)]
theorem srt_sorted (S : List ByteArray) : (srt S).Pairwise (fun x y => toL x ≤ toL y) := by
  unfold srt
  refine List.pairwise_map.2 ?_
  have tr : ∀ a b c : List UInt8, leB a b = true → leB b c = true → leB a c = true := fun a b c h1 h2 => by simp only [leB, decide_eq_true_eq] at *; exact List.le_trans h1 h2
  have tot2 : ∀ a b : List UInt8, (leB a b || leB b a) = true := fun a b => by simp only [leB, Bool.or_eq_true, decide_eq_true_eq]; exact List.le_total a b
  refine (List.pairwise_mergeSort tr tot2 _).imp fun {a b} h => ?_
  rw [toL_ofL, toL_ofL]
  simpa [leB] using h
theorem srt_nodup (S : List ByteArray) : (srt S).Nodup := by
  unfold srt
  refine List.pairwise_map.2 ?_
  have h1 : ((nub S).map toL).Nodup := List.pairwise_map.2 ((nub_nodup S).imp fun hne e => hne (toL_inj e))
  have h2 : (((nub S).map toL).mergeSort leB).Nodup := (List.mergeSort_perm _ _).nodup_iff.2 h1
  exact h2.imp fun hne e => hne (by have := congrArg toL e; rwa [toL_ofL, toL_ofL] at this)
/-- What some names lead to, but for those that are there. -/
inductive Rch (U : ByteArray → List ByteArray) (H : List ByteArray) (W : ByteArray → Prop) : ByteArray → Prop where
  | base (x : ByteArray) : W x → x ∉ H → Rch U H W x
  | step (x y : ByteArray) : Rch U H W x → y ∈ U x → y ∉ H → Rch U H W y
theorem Rch.notH {U : ByteArray → List ByteArray} {H : List ByteArray} {W : ByteArray → Prop} {x : ByteArray} (h : Rch U H W x) : x ∉ H := by cases h <;> assumption
theorem Rch.imp {U : ByteArray → List ByteArray} {H H' : List ByteArray} {W W' : ByteArray → Prop} (hH : ∀ x, x ∈ H' → x ∈ H) (hW : ∀ x, W x → x ∉ H → Rch U H' W' x) {x : ByteArray} (h : Rch U H W x) : Rch U H' W' x := by
  induction h with
  | base x h1 h2 => exact hW x h1 h2
  | step x y _ h2 h3 ih => exact .step x y ih h2 (fun h => h3 (hH _ h))
/-- Closed: what was reached, and what is to be looked at. -/
structure Clo (U : ByteArray → List ByteArray) (H : List ByteArray) (W : ByteArray → Prop) (st seen : List ByteArray) : Prop where
  s1 : ∀ x ∈ seen, Rch U H W x
  s2 : ∀ x ∈ st, x ∉ H → Rch U H W x
  c1 : ∀ x, W x → x ∉ H → x ∈ seen ∨ x ∈ st
  c2 : ∀ x ∈ seen, ∀ y ∈ U x, y ∉ H → y ∈ seen ∨ y ∈ st
theorem Clo.start (U : ByteArray → List ByteArray) (H st : List ByteArray) : Clo U H (fun x => x ∈ st) st [] :=
  ⟨fun x hx => absurd hx List.not_mem_nil, fun x hx hn => .base x hx hn, fun x hx _ => .inr hx, fun x hx => absurd hx List.not_mem_nil⟩
theorem Clo.done {U : ByteArray → List ByteArray} {H seen : List ByteArray} {W : ByteArray → Prop} (h : Clo U H W [] seen) (x : ByteArray) : x ∈ seen ↔ Rch U H W x := by
  refine ⟨h.s1 x, fun hr => ?_⟩
  induction hr with
  | base x h1 h2 => exact (h.c1 x h1 h2).resolve_right (fun h => by cases h)
  | step x y _ h2 h3 ih => exact (h.c2 x ih y h2 h3).resolve_right (fun h => by cases h)
theorem Clo.skip {U : ByteArray → List ByteArray} {H rs seen : List ByteArray} {x : ByteArray} {W : ByteArray → Prop} (h : Clo U H W (rs ++ [x]) seen) (hx : x ∈ H ∨ x ∈ seen) : Clo U H W rs seen := by
  refine ⟨h.s1, fun y hy => h.s2 y (by simp [hy]), fun y hy hn => ?_, fun z hz y hy hn => ?_⟩
  · rcases h.c1 y hy hn with h1 | h1
    · exact .inl h1
    · rcases List.mem_append.1 h1 with h2 | h2
      · exact .inr h2
      · rw [List.mem_singleton.1 h2] at hn ⊢
        exact .inl (hx.resolve_left hn)
  · rcases h.c2 z hz y hy hn with h1 | h1
    · exact .inl h1
    · rcases List.mem_append.1 h1 with h2 | h2
      · exact .inr h2
      · rw [List.mem_singleton.1 h2] at hn ⊢
        exact .inl (hx.resolve_left hn)
theorem Clo.push {U : ByteArray → List ByteArray} {H rs seen : List ByteArray} {x : ByteArray} {W : ByteArray → Prop} (h : Clo U H W (rs ++ [x]) seen) (hx : x ∉ H) : Clo U H W (rs ++ U x) (x :: seen) := by
  have hrx := h.s2 x (by simp) hx
  refine ⟨fun y hy => ?_, fun y hy hn => ?_, fun y hy hn => ?_, fun z hz y hy hn => ?_⟩
  · rcases List.mem_cons.1 hy with e | hy
    · rw [e]; exact hrx
    · exact h.s1 y hy
  · rcases List.mem_append.1 hy with hy | hy
    · exact h.s2 y (by simp [hy]) hn
    · exact .step x y hrx hy hn
  · rcases h.c1 y hy hn with h1 | h1
    · exact .inl (List.mem_cons_of_mem _ h1)
    · rcases List.mem_append.1 h1 with h2 | h2
      · exact .inr (by simp [h2])
      · exact .inl (by simp [List.mem_singleton.1 h2])
  · rcases List.mem_cons.1 hz with e | hz
    · rw [e] at hy
      exact .inr (by simp [hy])
    · rcases h.c2 z hz y hy hn with h1 | h1
      · exact .inl (List.mem_cons_of_mem _ h1)
      · rcases List.mem_append.1 h1 with h2 | h2
        · exact .inr (by simp [h2])
        · exact .inl (by simp [List.mem_singleton.1 h2])
theorem want_spec (l : List Vo) (H : List ByteArray) (W : ByteArray → Prop) : ∀ (n : Nat) (st seen miss s' m' : List ByteArray), want l H n st seen miss = some (s', m') → Clo (uses l) H W st seen → (∀ x, x ∈ miss ↔ x ∈ seen ∧ usesOf l x = none) →
    (∀ x, x ∈ s' ↔ Rch (uses l) H W x) ∧ ∀ x, x ∈ m' ↔ x ∈ s' ∧ usesOf l x = none
  | 0, _, _, _, _, _, h, _, _ => by rw [want] at h; cases h
  | n + 1, st, seen, miss, s', m', h, hc, hm => by
    by_cases h0 : st.length = 0
    · rw [want, if_pos h0] at h
      injection h with h
      injection h with h1 h2
      subst h1; subst h2
      have := List.length_eq_zero_iff.1 h0
      subst this
      exact ⟨hc.done, hm⟩
    · obtain ⟨rs, x, rfl⟩ := snoc_of h0
      rw [want_succ] at h
      by_cases h1 : x ∈ H ∨ x ∈ seen
      · rw [if_pos h1] at h
        exact want_spec l H W n _ _ _ _ _ h (hc.skip h1) hm
      · rw [if_neg h1] at h
        have hxH : x ∉ H := fun h => h1 (.inl h)
        by_cases h2 : usesOf l x = none
        · rw [if_pos h2] at h
          have hu : uses l x = [] := by unfold uses; rw [h2]; rfl
          have hp := hc.push hxH
          rw [hu, List.append_nil] at hp
          refine want_spec l H W n _ _ _ _ _ h hp (fun y => ?_)
          rw [List.mem_append, List.mem_singleton, List.mem_cons, hm y]
          constructor
          · rintro (⟨h3, h4⟩ | h3)
            · exact ⟨.inr h3, h4⟩
            · rw [h3]; exact ⟨.inl rfl, h2⟩
          · rintro ⟨h3 | h3, h4⟩
            · exact .inr h3
            · exact .inl ⟨h3, h4⟩
        · rw [if_neg h2] at h
          refine want_spec l H W n _ _ _ _ _ h (hc.push hxH) (fun y => ?_)
          rw [hm y, List.mem_cons]
          constructor
          · rintro ⟨h3, h4⟩; exact ⟨.inr h3, h4⟩
          · rintro ⟨h3 | h3, h4⟩
            · rw [h3] at h4; exact absurd h4 h2
            · exact ⟨h3, h4⟩
theorem circ_spec (l : List Vo) (H : List ByteArray) (name : ByteArray) (W : ByteArray → Prop) : ∀ (n : Nat) (st seen : List ByteArray) (r : Bool), circ l H name n st seen = some r → Clo (uses l) H W st seen → name ∉ seen → (r = true ↔ Rch (uses l) H W name)
  | 0, _, _, _, h, _, _ => by rw [circ] at h; cases h
  | n + 1, st, seen, r, h, hc, hn => by
    by_cases h0 : st.length = 0
    · rw [circ, if_pos h0] at h
      injection h with h
      subst h
      have := List.length_eq_zero_iff.1 h0
      subst this
      exact ⟨fun h => absurd h (by decide), fun h => absurd ((hc.done name).2 h) hn⟩
    · obtain ⟨rs, x, rfl⟩ := snoc_of h0
      rw [circ_succ] at h
      by_cases h1 : x ∈ H ∨ x ∈ seen
      · rw [if_pos h1] at h
        exact circ_spec l H name W n _ _ _ h (hc.skip h1) hn
      · rw [if_neg h1] at h
        have hxH : x ∉ H := fun h => h1 (.inl h)
        by_cases h2 : x = name
        · rw [if_pos h2] at h
          injection h with h
          subst h
          exact ⟨fun _ => h2 ▸ hc.s2 x (by simp) hxH, fun _ => rfl⟩
        · rw [if_neg h2] at h
          exact circ_spec l H name W n _ _ _ h (hc.push hxH) (fun h => by rcases List.mem_cons.1 h with h | h; exact h2 h.symm; exact hn h)
end Go.Proofs.Ytlphpmdmlcphbaa.Or
