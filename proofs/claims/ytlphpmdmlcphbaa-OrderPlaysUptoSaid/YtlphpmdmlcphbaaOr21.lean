/- Seat E: plain: what stands twice; a list that is turned. -/
import Derived.Test.YtlphpmdmlcphbaaOr20
namespace Go.Proofs.Ytlphpmdmlcphbaa.Or
open Go Go.RowKit Go.Proofs.Ytlphpmdmlcphbaa.Mem Go.Proofs.YtlphpmdmlcphbaaW.PrintWords Go.Maps Go.Proofs.Ytlphpmdmlcphbaa.Om
set_option linter.unusedVariables false
set_option linter.unusedSimpArgs false
set_option maxRecDepth 100000
set_option maxHeartbeats 400000
/-- A list of names, one of which stood before. -/
def Dup : List ByteArray → List ByteArray → Prop
  | _, [] => False
  | S, u :: r => u ∈ S ∨ Dup (u :: S) r
theorem Dup_cons (S : List ByteArray) (u : ByteArray) (r : List ByteArray) : Dup S (u :: r) ↔ (u ∈ S ∨ Dup (u :: S) r) := Iff.rfl
theorem ust_mem (n x : ByteArray) : ∀ (us S B : List ByteArray), x ∈ (us.foldl (ust n) (S, B)).2 ↔ x ∈ B ∨ (x = n ∧ Dup S us)
  | [], S, B => by simp [Dup]
  | u :: r, S, B => by
    rw [List.foldl_cons]
    unfold ust
    dsimp only
    have ih := ust_mem n x r (u :: S) (if u ∈ S then B ++ [n] else B)
    unfold ust at ih
    rw [ih]
    rw [Dup_cons]
    by_cases h : u ∈ S
    · rw [if_pos h]
      simp only [List.mem_append, List.mem_singleton, h, true_or, and_true]
      constructor
      · rintro ((h1 | h1) | ⟨h1, _⟩)
        · exact .inl h1
        · exact .inr h1
        · exact .inr h1
      · rintro (h1 | h1)
        · exact .inl (.inl h1)
        · exact .inl (.inr h1)
    · rw [if_neg h]
      simp only [h, false_or]
/-- A name that stood before, or whose list has one twice. -/
def Bad : List ByteArray → List Vo → ByteArray → Prop
  | _, [], _ => False
  | S, v :: r, x => (x = v.1 ∧ (v.1 ∈ S ∨ Dup [] v.2)) ∨ Bad (v.1 :: S) r x
theorem Bad_cons (S : List ByteArray) (v : Vo) (r : List Vo) (x : ByteArray) : Bad S (v :: r) x ↔ ((x = v.1 ∧ (v.1 ∈ S ∨ Dup [] v.2)) ∨ Bad (v.1 :: S) r x) := Iff.rfl
theorem tst_mem (x : ByteArray) : ∀ (l : List Vo) (S B : List ByteArray), x ∈ (l.foldl tst (S, B)).2 ↔ x ∈ B ∨ Bad S l x
  | [], S, B => by simp [Bad]
  | v :: r, S, B => by
    rw [List.foldl_cons]
    have e : tst (S, B) v = (v.1 :: S, (v.2.foldl (ust v.1) ([], if v.1 ∈ S then B ++ [v.1] else B)).2) := rfl
    rw [e, tst_mem x r, ust_mem]
    rw [Bad_cons]
    by_cases h : v.1 ∈ S
    · rw [if_pos h]
      simp only [List.mem_append, List.mem_singleton, h, true_or, and_true]
      constructor
      · rintro (((h1 | h1) | ⟨h1, _⟩) | h1)
        · exact .inl h1
        · exact .inr (.inl h1)
        · exact .inr (.inl h1)
        · exact .inr (.inr h1)
      · rintro (h1 | h1 | h1)
        · exact .inl (.inl (.inl h1))
        · exact .inl (.inl (.inr h1))
        · exact .inr h1
    · rw [if_neg h]
      simp only [h, false_or]
      constructor
      · rintro ((h1 | h1) | h1)
        · exact .inl h1
        · exact .inr (.inl h1)
        · exact .inr (.inr h1)
      · rintro (h1 | h1 | h1)
        · exact .inl (.inl h1)
        · exact .inl (.inr h1)
        · exact .inr h1
theorem bads_mem (l : List Vo) (x : ByteArray) : x ∈ bads l ↔ Bad [] l x := by
  unfold bads
  rw [tst_mem]
  simp
/-- How often a name stands. -/
def tw (x : ByteArray) (l : List Vo) : Nat := (l.filter (fun v => decide (v.1 = x))).length
theorem tw_cons (x : ByteArray) (v : Vo) (l : List Vo) : tw x (v :: l) = (if v.1 = x then 1 else 0) + tw x l := by
  unfold tw
  rw [List.filter_cons]
  by_cases h : v.1 = x
  · rw [if_pos (by simpa using h), if_pos h]; simp; omega
  · rw [if_neg (by simpa using h), if_neg h]; simp
theorem bad_iff (x : ByteArray) : ∀ (l : List Vo) (S : List ByteArray), Bad S l x ↔ (∃ v ∈ l, v.1 = x ∧ Dup [] v.2) ∨ (x ∈ S ∧ 1 ≤ tw x l) ∨ 2 ≤ tw x l
  | [], S => by simp [Bad, tw]
  | v :: r, S => by
    rw [Bad_cons, bad_iff x r, tw_cons]
    by_cases hv : v.1 = x
    · rw [if_pos hv]
      subst hv
      simp only [true_and, List.mem_cons, true_or, exists_eq_or_imp]
      constructor
      · rintro ((h | h) | h | h | h)
        · exact .inr (.inl ⟨h, by omega⟩)
        · exact .inl (.inl h)
        · exact .inl (.inr h)
        · exact .inr (.inr (by omega))
        · exact .inr (.inr (by omega))
      · rintro ((h | h) | ⟨h, _⟩ | h)
        · exact .inl (.inr h)
        · exact .inr (.inl h)
        · exact .inl (.inl h)
        · exact .inr (.inr (.inl (by omega)))
    · rw [if_neg hv]
      have hv' : ¬ x = v.1 := fun e => hv e.symm
      simp only [hv', hv, false_and, false_or, List.mem_cons, exists_eq_or_imp, Nat.zero_add]
theorem tw_reverse (x : ByteArray) (l : List Vo) : tw x l.reverse = tw x l := by
  unfold tw
  rw [List.filter_reverse, List.length_reverse]
theorem bads_reverse (l : List Vo) (x : ByteArray) : x ∈ bads l.reverse ↔ x ∈ bads l := by
  rw [bads_mem, bads_mem, bad_iff, bad_iff, tw_reverse]
  simp
theorem tw_mem {x : ByteArray} {l : List Vo} (h : ∃ v ∈ l, v.1 = x) : 1 ≤ tw x l := by
  obtain ⟨v, hv, hx⟩ := h
  exact List.length_pos_of_mem (List.mem_filter.2 ⟨hv, by simpa using hx⟩)
theorem bads_nil {l : List Vo} (h : bads l = []) (x : ByteArray) : tw x l ≤ 1 ∧ ∀ v ∈ l, ¬ Dup [] v.2 := by
  constructor
  · by_cases h2 : tw x l ≤ 1
    · exact h2
    · have : x ∈ bads l := (bads_mem l x).2 ((bad_iff x l []).2 (.inr (.inr (by omega))))
      rw [h] at this; cases this
  · intro v hv hd
    have : v.1 ∈ bads l := (bads_mem l v.1).2 ((bad_iff v.1 l []).2 (.inl ⟨v, hv, rfl, hd⟩))
    rw [h] at this; cases this
/-- The list of a name that stands once. -/
theorem usesOf_once {x : ByteArray} : ∀ (l : List Vo) (a : Option (List ByteArray)), tw x l ≤ 1 → ∀ v ∈ l, v.1 = x → l.foldl (fun a v => if x = v.1 then some v.2 else a) a = some v.2
  | [], _, _, v, hv, _ => by cases hv
  | z :: r, a, h, v, hv, hx => by
    rw [tw_cons] at h
    rw [List.foldl_cons]
    have hrest : ∀ (r : List Vo) (b : Option (List ByteArray)), tw x r = 0 → r.foldl (fun a v => if x = v.1 then some v.2 else a) b = b := by
      intro r
      induction r with
      | nil => intro b _; rfl
      | cons y r ih =>
        intro b hb
        rw [tw_cons] at hb
        by_cases hy : y.1 = x
        · rw [if_pos hy] at hb; omega
        · rw [if_neg hy] at hb
          rw [List.foldl_cons, if_neg (fun e => hy e.symm)]
          exact ih b (by omega)
    by_cases hz : z.1 = x
    · rw [if_pos hz] at h
      rw [if_pos hz.symm, hrest r _ (by omega)]
      rcases List.mem_cons.1 hv with e | hv
      · rw [e]
      · have := tw_mem ⟨v, hv, hx⟩
        omega
    · rw [if_neg hz] at h
      rcases List.mem_cons.1 hv with e | hv
      · rw [e] at hx; exact absurd hx hz
      · exact usesOf_once r _ (by omega) v hv hx
theorem usesOf_at {l : List Vo} (h : bads l = []) {v : Vo} (hv : v ∈ l) : usesOf l v.1 = some v.2 := usesOf_once l none (bads_nil h v.1).1 v hv rfl
theorem usesOf_iff {l : List Vo} (h : bads l = []) (x : ByteArray) (us : List ByteArray) : usesOf l x = some us ↔ (x, us) ∈ l := ⟨usesOf_name, fun hm => usesOf_at h hm⟩
theorem usesOf_reverse {l : List Vo} (h : bads l = []) (x : ByteArray) : usesOf l.reverse x = usesOf l x := by
  have hr : bads l.reverse = [] := by
    rw [List.eq_nil_iff_forall_not_mem]
    intro y hy
    have := (bads_reverse l y).1 hy
    rw [h] at this; cases this
  cases hu : usesOf l x with
  | none =>
    cases hv : usesOf l.reverse x with
    | none => rfl
    | some us =>
      have h1 := (usesOf_iff hr x us).1 hv
      rw [List.mem_reverse] at h1
      rw [(usesOf_iff h x us).2 h1] at hu
      cases hu
  | some us =>
    exact (usesOf_iff hr x us).2 (List.mem_reverse.2 ((usesOf_iff h x us).1 hu))
/-- Sort answers the same at a list turned, and at what is wanted turned and what is there. -/
theorem Res.turn {l : List Vo} {wl hv : List ByteArray} {r r' : List ByteArray × ByteArray × Int} (h : Res l wl hv r) (h' : Res l.reverse (wl.reverse ++ hv) hv r') : r = r' := by
  by_cases hb : bads l = []
  · have hr : bads l.reverse = [] := by
      rw [List.eq_nil_iff_forall_not_mem]
      intro y hy
      have := (bads_reverse l y).1 hy
      rw [hb] at this; cases this
    have hu : ∀ x, uses l.reverse x = uses l x := fun x => by unfold uses; rw [usesOf_reverse hb]
    have hue : uses l.reverse = uses l := funext hu
    have hRW : ∀ x, RW l.reverse (wl.reverse ++ hv) hv x ↔ RW l wl hv x := fun x => by
      unfold RW
      rw [hue]
      constructor
      · exact Rch.imp (fun _ h => h) (fun y hy hn => by
          rcases List.mem_append.1 hy with h | h
          · exact .base y (List.mem_reverse.1 h) hn
          · exact absurd (List.mem_reverse.2 h) hn)
      · exact Rch.imp (fun _ h => h) (fun y hy hn => .base y (List.mem_append_left _ (List.mem_reverse.2 hy)) hn)
    have hOC : ∀ x, OnC l.reverse hv x ↔ OnC l hv x := fun x => by unfold OnC; rw [hue]
    cases h with
    | twice h => exact absurd hb h
    | none miss _ hm hx =>
      obtain ⟨z, hz⟩ := List.exists_mem_of_ne_nil miss hm
      obtain ⟨hz1, hz2⟩ := (hx z).1 hz
      cases h' with
      | twice h => exact absurd hr h
      | none miss' _ hm' hx' =>
        have e := mnL_congr (b := miss) (c := miss') (fun x => by rw [hx x, hx' x, hRW, usesOf_reverse hb]) hm
        rw [e]
      | cycle x _ hk _ _ _ => exact absurd (by rw [usesOf_reverse hb]; exact hz2) (hk z ((hRW z).2 hz1))
      | ok o ho _ => exact absurd (by rw [usesOf_reverse hb]; exact hz2) (ho.known z ((ho.all z).2 ((hRW z).2 hz1)))
    | cycle x _ hk h1 h2 h3 =>
      cases h' with
      | twice h => exact absurd hr h
      | none miss' _ hm' hx' =>
        obtain ⟨z, hz⟩ := List.exists_mem_of_ne_nil miss' hm'
        obtain ⟨hz1, hz2⟩ := (hx' z).1 hz
        exact absurd (by rw [← usesOf_reverse hb]; exact hz2) (hk z ((hRW z).1 hz1))
      | cycle x' _ hk' h1' h2' h3' =>
        have : x = x' := toL_inj (List.le_antisymm (h3 x' ((hRW x').1 h1') ((hOC x').1 h2')) (h3' x ((hRW x).2 h1) ((hOC x).2 h2)))
        rw [this]
      | ok o ho hn => exact absurd ((hOC x).2 h2) (hn x ((hRW x).2 h1))
    | ok o ho hn =>
      cases h' with
      | twice h => exact absurd hr h
      | none miss' _ hm' hx' =>
        obtain ⟨z, hz⟩ := List.exists_mem_of_ne_nil miss' hm'
        obtain ⟨hz1, hz2⟩ := (hx' z).1 hz
        exact absurd (by rw [← usesOf_reverse hb]; exact hz2) (ho.known z ((ho.all z).2 ((hRW z).1 hz1)))
      | cycle x' _ hk' h1' h2' h3' => exact absurd ((hOC x').1 h2') (hn x' ((hRW x').1 h1'))
      | ok o' ho' hn' =>
        have : o = o' := OrdA.unique hu (fun x => Iff.rfl) ho.ord ho'.ord (fun x => by rw [ho.all x, ho'.all x]; exact (hRW x).symm)
        rw [this]
  · have hr : bads l.reverse ≠ [] := fun e => by
      obtain ⟨z, hz⟩ := List.exists_mem_of_ne_nil _ hb
      have := (bads_reverse l z).2 hz
      rw [e] at this; cases this
    cases h with
    | twice h =>
      cases h' with
      | twice h2 => rw [mnL_congr (fun x => (bads_reverse l x).symm) hb]
      | none _ h2 _ _ => exact absurd h2 hr
      | cycle _ h2 _ _ _ _ => exact absurd h2 hr
      | ok o ho _ => exact absurd ho.dist hr
    | none _ h2 _ _ => exact absurd h2 hb
    | cycle _ h2 _ _ _ _ => exact absurd h2 hb
    | ok o ho _ => exact absurd ho.dist hb
end Go.Proofs.Ytlphpmdmlcphbaa.Or
