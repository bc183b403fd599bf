/- Seat E: slices.Sort of names; a list of lists of names in memory; levels, plain. -/
import Derived.Test.YtlphpmdmlcphbaaOr12
import Derived.Sort.OwnSorted
namespace Go.Proofs.Ytlphpmdmlcphbaa.Or
open Go Go.RowKit Go.Proofs.Ytlphpmdmlcphbaa.Mem Go.Proofs.YtlphpmdmlcphbaaW.PrintWords Go.Maps Go.Proofs.Ytlphpmdmlcphbaa.Om
set_option linter.unusedVariables false
set_option linter.unusedSimpArgs false
set_option maxRecDepth 100000
set_option maxHeartbeats 400000
/-- Names, rising. -/
def msort (xs : List ByteArray) : List ByteArray := ((xs.map toL).mergeSort leB).map ofL
theorem msort_len (xs : List ByteArray) : (msort xs).length = xs.length := by simp [msort]
theorem srt_eq (S : List ByteArray) : srt S = msort (nub S) := rfl
theorem enc_toL (xs : List ByteArray) : (xs.map toL).map encStr = xs.map Value.string := by
  rw [List.map_map]
  refine List.map_congr_left fun x _ => ?_
  show Value.string (ofL (toL x)) = _
  rw [ofL_toL]
theorem sort_own (base : Nat) (v : Value) (xs : List ByteArray) (w : World) (h : OwnS w base v xs) (hl : xs.length ≤ 16777216) :
    Calls Try.prog 30 #[v] w fun e w' => e = .returned (.tuple #[]) ∧ OwnS w' base v (msort xs) ∧ w.grownBy w' v.ownBlock := by
  rcases h.2 with ⟨hv, h0⟩ | ⟨g, cap, cur, rfl, hbase, hb, h1, h2, h3, h4⟩
  · subst hv
    have hx : xs = [] := List.length_eq_zero_iff.1 h0
    subst hx
    refine (AnyM.slices_Sort_string_none Try.sort30 none 0 w).mono ?_
    rintro e w' ⟨rfl, rfl⟩
    exact ⟨rfl, (by rw [show msort [] = [] by simp [msort]]; exact h), ⟨rfl, rfl, rfl, Nat.le_refl _, fun _ _ _ => rfl⟩⟩
  · have hlen : (xs.map toL).length = xs.length := List.length_map ..
    have ht : cur.toList.take (xs.map toL).length = (xs.map toL).map encStr := by rw [hlen, enc_toL]; simpa using h4
    have hcon := AnyM.slices_Sort_string Try.sort30 g 0 cap (xs.map toL) w (holds_of_block hb ht) (Array.getElem?_eq_some_iff.1 hb).1 (by rw [hlen]; omega)
    change Calls Try.prog 30 _ _ _ at hcon
    rw [hlen] at hcon
    refine hcon.mono ?_
    rintro e w' ⟨rfl, n, os, rfl⟩
    refine ⟨rfl, ?_, grownBy_sorted _⟩
    have h5 := ownsRow_sorted (ts := (xs.map toL).mergeSort leB) (n := n) (os := os) (ss := xs.map toL) (by simp) hbase hb (by rw [hlen]; exact h1) h2 h3
    have h6 : ((xs.map toL).mergeSort leB).map encStr = (msort xs).map Value.string := by
      rw [← enc_toL, msort, List.map_map (g := toL), show toL ∘ ofL = id from rfl, List.map_id]
    rw [h6, hlen] at h5
    unfold OwnS
    rw [msort_len]
    exact h5
/-- A slice, as what its cell holds. -/
abbrev SL := Option Addr × Nat × Nat
abbrev sv (p : SL) : Value := Value.slice p.1 p.2.1 p.2.2
/-- A list of lists of names, each in memory of its own. -/
structure LV (w : World) (base : Nat) (ov : Value) (us : List SL) (outs : List (List ByteArray)) : Prop where
  row : w.ownsRow base 23 1 ov us.length (us.map sv)
  len : us.length = outs.length
  at_ : ∀ j (hj : j < us.length) (hk : j < outs.length), OwnS w base (sv us[j]) outs[j]
  sep : ∀ j (hj : j < us.length), ∀ b, (sv us[j]).ownBlock = some b → ov.ownBlock ≠ some b
  dis : ∀ i j (hi : i < us.length) (hj : j < us.length), i ≠ j → ∀ b, (sv us[i]).ownBlock = some b → (sv us[j]).ownBlock ≠ some b
section
variable {w w' : World} {base : Nat} {ov : Value} {us : List SL} {outs : List (List ByteArray)}
theorem LV.nil (w : World) (base : Nat) : LV w base (.slice none 0 0) [] [] :=
  ⟨World.ownsRow_nil _ _ _ _, rfl, fun j hj => absurd hj (Nat.not_lt_zero _), fun j hj => absurd hj (Nat.not_lt_zero _), fun i j hi => absurd hi (Nat.not_lt_zero _)⟩
theorem LV.keep (h : LV w base ov us outs) (r : Option Nat) (hg : w.grownBy w' r) (h1 : ov.ownBlock = none ∨ ov.ownBlock ≠ r) (h2 : ∀ j (hj : j < us.length), (sv us[j]).ownBlock = none ∨ (sv us[j]).ownBlock ≠ r) : LV w' base ov us outs :=
  ⟨h.row.kept hg h1, h.len, fun j hj hk => World.ownsRow.kept (h.at_ j hj hk) hg (h2 j hj), h.sep, h.dis⟩
theorem grown_of_only {S : Nat → Prop} (ho : Only w w' S) (b : Nat) (hS : ∀ k, S k → k = b) : w.grownBy w' (some b) := ⟨ho.os, ho.tape, ho.output, ho.size, fun k hk hn => ho.block k hk (fun hs => hn (by rw [hS k hs]))⟩
theorem grown_of_below (hb : Below w.heap.size w w') : w.grownBy w' none := ⟨hb.os, hb.tape, hb.output, hb.size, fun k hk _ => hb.block k hk⟩
theorem LV.below (h : LV w base ov us outs) (hb : Below w.heap.size w w') : LV w' base ov us outs :=
  h.keep none (grown_of_below hb) (by cases ho : ov.ownBlock <;> simp) (fun j hj => by cases ho : (sv us[j]).ownBlock <;> simp)
/-- A row of cells is no map. -/
theorem row_ne_map {e : TypeId} {s n m b : Nat} {v : Value} {xs : List Value} {mm : ByteArray → Option Value} (h : w.ownsRow base e s v n xs) (hm : Mp w b m mm) : v.ownBlock ≠ some b := by
  rcases h.2 with ⟨rfl, _⟩ | ⟨g, cap, cur, rfl, _, hg, _⟩
  · simp [Value.ownBlock]
  · intro e1
    have h2 : g = b := by simpa [Value.ownBlock] using e1
    obtain ⟨D, ⟨es, cl, hh, _⟩, _⟩ := hm
    rw [h2, hh] at hg
    cases hg
theorem LV.only {b n : Nat} {m : ByteArray → Option Value} (h : LV w base ov us outs) (hm : Mp w b n m) (ho : Only w w' (fun k => k = b)) : LV w' base ov us outs :=
  h.keep (some b) (grown_of_only ho b (fun _ h => h)) (.inr (row_ne_map h.row hm)) (fun j hj => .inr (row_ne_map (h.at_ j hj (h.len ▸ hj)) hm))
/-- One more list, empty. -/
theorem LV.push {ov' : Value} (h : LV w base ov us outs) (hg : w.grownBy w' ov.ownBlock) (hr : w'.ownsRow base 23 1 ov' (us.length + 1) ((us ++ [(none, 0, 0)]).map sv)) (hat : ov'.ownBlock = ov.ownBlock ∨ ∃ b, ov'.ownBlock = some b ∧ w.heap.size ≤ b) :
    LV w' base ov' (us ++ [(none, 0, 0)]) (outs ++ [[]]) := by
  have hnew : ∀ j (hj : j < us.length), (sv us[j]).ownBlock = none ∨ (sv us[j]).ownBlock ≠ ov.ownBlock := fun j hj => by
    cases hb : (sv us[j]).ownBlock with
    | none => exact .inl rfl
    | some b => exact .inr fun e => h.sep j hj b hb e.symm
  have hlen := h.len
  refine ⟨by rw [List.length_append]; exact hr, by simp [h.len], fun j hj hk => ?_, fun j hj b hb => ?_, fun i j hi hj hne b hb => ?_⟩
  · by_cases hjl : j < us.length
    · have hjo : j < outs.length := by omega
      rw [List.getElem_append_left hjl, List.getElem_append_left hjo]
      exact World.ownsRow.kept (h.at_ j hjl hjo) hg (hnew j hjl)
    · have : j = us.length := by simp at hj; omega
      subst this
      have h1 : (us ++ [((none, 0, 0) : SL)])[us.length] = (none, 0, 0) := by simp
      have h2 : (outs ++ [([] : List ByteArray)])[us.length] = [] := by simp [hlen]
      rw [h1, h2]
      exact World.ownsRow_nil _ _ _ _
  · by_cases hjl : j < us.length
    · rw [List.getElem_append_left hjl] at hb
      rcases hat with e | ⟨b', e, hge⟩
      · rw [e]; exact h.sep j hjl b hb
      · rw [e]
        intro e2
        injection e2 with e2
        have := (World.ownsRow.lt (h.at_ j hjl (by omega)) b hb).2
        omega
    · have : j = us.length := by simp at hj; omega
      subst this
      rw [show (us ++ [((none, 0, 0) : SL)])[us.length] = (none, 0, 0) by simp] at hb
      cases hb
  · by_cases hil : i < us.length
    · rw [List.getElem_append_left hil] at hb
      by_cases hjl : j < us.length
      · rw [List.getElem_append_left hjl]
        exact h.dis i j hil hjl hne b hb
      · have : j = us.length := by simp at hj; omega
        subst this
        rw [show (us ++ [((none, 0, 0) : SL)])[us.length] = (none, 0, 0) by simp]
        intro e; cases e
    · have : i = us.length := by simp at hi; omega
      subst this
      rw [show (us ++ [((none, 0, 0) : SL)])[us.length] = (none, 0, 0) by simp] at hb
      cases hb
/-- List j has another content, and perhaps another block. -/
theorem LV.turn {w1 : World} (h : LV w base ov us outs) (j : Nat) (hj : j < us.length) (p : SL) (ys : List ByteArray) (hg : w.grownBy w1 (sv us[j]).ownBlock) (hO : OwnS w1 base (sv p) ys) (hat : (sv p).ownBlock = (sv us[j]).ownBlock ∨ ∃ b, (sv p).ownBlock = some b ∧ w.heap.size ≤ b)
    (hmid : ov.ownBlock = none ∨ ov.ownBlock ≠ (sv us[j]).ownBlock) (hset : w1.grownBy w' ov.ownBlock) (hr : w'.ownsRow base 23 1 ov us.length ((us.set j p).map sv)) : LV w' base ov (us.set j p) (outs.set j ys) := by
  have hlen := h.len
  have hpo : ∀ b, (sv p).ownBlock = some b → ov.ownBlock ≠ some b := fun b hb e => by
    rcases hat with e1 | ⟨b', e1, hge⟩
    · exact h.sep j hj b (e1.symm.trans hb) e
    · rw [e1] at hb
      injection hb with hb
      have := (World.ownsRow.lt h.row b e).2
      omega
  have hkeep : ∀ i (hi : i < us.length) (hk : i < outs.length), i ≠ j → OwnS w' base (sv us[i]) outs[i] := fun i hi hk hne => by
    refine World.ownsRow.kept (World.ownsRow.kept (h.at_ i hi hk) hg ?_) hset ?_
    · cases hb : (sv us[i]).ownBlock with
      | none => exact .inl rfl
      | some b => exact .inr fun e => h.dis i j hi hj hne b hb e.symm
    · cases hb : (sv us[i]).ownBlock with
      | none => exact .inl rfl
      | some b => exact .inr fun e => h.sep i hi b hb e.symm
  have hpd : ∀ i (hi : i < us.length), i ≠ j → ∀ b, (sv us[i]).ownBlock = some b → (sv p).ownBlock ≠ some b := fun i hi hne b hb e => by
    rcases hat with e1 | ⟨b', e1, hge⟩
    · exact h.dis i j hi hj hne b hb (e1.symm.trans e)
    · rw [e1] at e
      injection e with e
      have := (World.ownsRow.lt (h.at_ i hi (by omega)) b hb).2
      omega
  refine ⟨by rw [List.length_set]; exact hr, by simp [h.len], fun i hi hk => ?_, fun i hi b hb => ?_, fun i k hi hk hne b hb => ?_⟩
  · simp only [List.getElem_set]
    by_cases hji : j = i
    · rw [if_pos hji, if_pos hji]
      refine World.ownsRow.kept hO hset ?_
      cases hb : (sv p).ownBlock with
      | none => exact .inl rfl
      | some b => exact .inr fun e => hpo b hb e.symm
    · rw [if_neg hji, if_neg hji]
      exact hkeep i (by simpa using hi) (by simpa using hk) (fun e => hji e.symm)
  · simp only [List.getElem_set] at hb
    by_cases hji : j = i
    · rw [if_pos hji] at hb; exact hpo b hb
    · rw [if_neg hji] at hb; exact h.sep i (by simpa using hi) b hb
  · simp only [List.getElem_set] at hb ⊢
    by_cases hji : j = i
    · rw [if_pos hji] at hb
      by_cases hjk : j = k
      · exact absurd (hji.symm.trans hjk) hne
      · rw [if_neg hjk]
        intro e
        exact hpd k (by simpa using hk) (fun e => hjk e.symm) b e hb
    · rw [if_neg hji] at hb
      by_cases hjk : j = k
      · rw [if_pos hjk]
        exact hpd i (by simpa using hi) (fun e => hji e.symm) b hb
      · rw [if_neg hjk]
        exact h.dis i k (by simpa using hi) (by simpa using hk) hne b hb
end
end Go.Proofs.Ytlphpmdmlcphbaa.Or
