/- Numbers by seven bits and lists of bytes, written and read, in plain words: what is written is read again, nothing else is read, and a byte less or more is told. No condition but that bytes are bytes and lengths lie below 2^63. -/
import Derived.Test.YtdpoifaeimmdmaaRows
namespace Go.Proofs.Ytdpoifaeimmdmaa.Sp
set_option linter.unusedVariables false
/-- A number's bytes. -/
def enc (n : Nat) : List Int := if n < 128 then [(n : Int)] else (((128 + n % 128 : Nat) : Int)) :: enc (n / 128)
termination_by n
decreasing_by omega
/-- A number, of at most d bytes; f: is it the first byte? -/
def rdP : Nat → Bool → List Int → Option (Nat × List Int)
  | 0, _, _ => none
  | _ + 1, _, [] => none
  | d + 1, f, c :: r => if c < 128 then (if c = 0 ∧ f = false then none else some (c.toNat, r)) else (rdP d false r).map fun p => (c.toNat - 128 + 128 * p.1, p.2)
theorem enc_small {n : Nat} (h : n < 128) : enc n = [(n : Int)] := by rw [enc, if_pos h]
theorem enc_big {n : Nat} (h : ¬ n < 128) : enc n = ((128 + n % 128 : Nat) : Int) :: enc (n / 128) := by rw [enc, if_neg h]
theorem enc_pos (n : Nat) : 1 ≤ (enc n).length := by rw [enc]; split <;> simp
theorem rd_enc : ∀ (d n : Nat) (f : Bool) (r : List Int), n < 128 ^ (d + 1) → (n ≠ 0 ∨ f = true) → rdP (d + 1) f (enc n ++ r) = some (n, r)
  | d, n, f, r, h, hf => by
    by_cases c : n < 128
    · rw [enc_small c]
      show (if (n : Int) < 128 then _ else _) = _
      rw [if_pos (by omega), if_neg (by rintro ⟨a, b⟩; subst b; rcases hf with hf | hf; · omega
                                        · cases hf)]
      simp
    · cases d with
      | zero => simp at h; omega
      | succ d =>
        rw [enc_big c, List.cons_append]
        show (if ((128 + n % 128 : Nat) : Int) < 128 then _ else _) = _
        rw [if_neg (by omega), rd_enc d (n / 128) false r (by rw [Nat.pow_succ] at h; omega) (.inl (by omega))]
        simp only [Option.map_some, Int.toNat_natCast, Option.some.injEq, Prod.mk.injEq, and_true]
        omega
theorem rd_back : ∀ (d : Nat) (f : Bool) (l : List Int) (n : Nat) (r : List Int), (∀ x ∈ l, 0 ≤ x ∧ x < 256) → rdP d f l = some (n, r) → l = enc n ++ r ∧ n < 128 ^ d ∧ (n ≠ 0 ∨ f = true)
  | 0, f, l, n, r, hx, h => by simp [rdP] at h
  | d + 1, f, [], n, r, hx, h => by simp [rdP] at h
  | d + 1, f, c :: l, n, r, hx, h => by
    have hc := hx c List.mem_cons_self
    rw [rdP] at h
    by_cases e : c < 128
    · rw [if_pos e] at h
      by_cases g : c = 0 ∧ f = false
      · rw [if_pos g] at h; cases h
      · rw [if_neg g] at h
        injection h with h
        injection h with h1 h2
        subst h1 h2
        have hp : 1 ≤ 128 ^ d := Nat.pos_of_ne_zero (by simp)
        refine ⟨?_, by rw [Nat.pow_succ]; omega, ?_⟩
        · rw [enc_small (by omega)]
          simp; omega
        · by_cases e0 : c = 0
          · right
            cases f with
            | false => exact absurd ⟨e0, rfl⟩ g
            | true => rfl
          · left; omega
    · rw [if_neg e] at h
      cases h2 : rdP d false l with
      | none => rw [h2] at h; cases h
      | some p =>
        obtain ⟨m, q⟩ := p
        rw [h2] at h
        simp only [Option.map_some, Option.some.injEq, Prod.mk.injEq] at h
        obtain ⟨h3, rfl⟩ := h
        obtain ⟨i1, i2, i3⟩ := rd_back d false l m q (fun x hm => hx x (List.mem_cons_of_mem _ hm)) h2
        have hm : m ≠ 0 := by rcases i3 with i3 | i3; · exact i3
                              · cases i3
        refine ⟨?_, by rw [Nat.pow_succ]; omega, .inl (by omega)⟩
        rw [enc_big (by omega), show n / 128 = m by omega, List.cons_append, ← i1]
        congr 1
        omega
theorem rd_len {d : Nat} {f : Bool} {l : List Int} {n : Nat} {r : List Int} (hx : ∀ x ∈ l, 0 ≤ x ∧ x < 256) (h : rdP d f l = some (n, r)) : r.length < l.length := by
  obtain ⟨h1, _⟩ := rd_back d f l n r hx h
  have := enc_pos n
  rw [h1, List.length_append]; omega
/-- Lists of bytes, each behind its length. -/
def cat : List (List Int) → List Int
  | [] => []
  | b :: r => enc b.length ++ (b ++ cat r)
def joinP (l : List (List Int)) : List Int := enc l.length ++ cat l
/-- n lists, and what is left. -/
def splN : Nat → List Int → Option (List (List Int) × List Int)
  | 0, r => some ([], r)
  | n + 1, r => match rdP 9 true r with
    | none => none
    | some (k, q) => if q.length < k then none else (splN n (q.drop k)).map fun p => (q.take k :: p.1, p.2)
def splitP (b : List Int) : Option (List (List Int)) := match rdP 9 true b with
  | none => none
  | some (n, r) => if b.length < n then none else match splN n r with
    | some (z, []) => some z
    | _ => none
theorem cat_len (l : List (List Int)) : l.length ≤ (cat l).length := by
  induction l with
  | nil => simp [cat]
  | cons b r ih =>
    have := enc_pos b.length
    simp only [cat, List.length_append, List.length_cons]; omega
theorem spl_cat : ∀ (z : List (List Int)) (r : List Int), (∀ b ∈ z, b.length < 128 ^ 9) → splN z.length (cat z ++ r) = some (z, r)
  | [], r, _ => rfl
  | b :: z, r, h => by
    rw [List.length_cons, splN, cat, List.append_assoc, rd_enc 8 b.length true _ (h b List.mem_cons_self) (.inr rfl)]
    simp only
    rw [if_neg (by simp), List.append_assoc, List.drop_left, List.take_left, spl_cat z r (fun c hc => h c (List.mem_cons_of_mem _ hc))]
    rfl
theorem spl_back : ∀ (n : Nat) (r : List Int) (z : List (List Int)) (q : List Int), (∀ x ∈ r, 0 ≤ x ∧ x < 256) → splN n r = some (z, q) → r = cat z ++ q ∧ z.length = n ∧ ∀ b ∈ z, b.length < 128 ^ 9
  | 0, r, z, q, hx, h => by
    simp only [splN, Option.some.injEq, Prod.mk.injEq] at h
    obtain ⟨rfl, rfl⟩ := h
    exact ⟨rfl, rfl, fun _ hb => by cases hb⟩
  | n + 1, r, z, q, hx, h => by
    rw [splN] at h
    cases h1 : rdP 9 true r with
    | none => rw [h1] at h; cases h
    | some p =>
      obtain ⟨k, t⟩ := p
      rw [h1] at h
      simp only at h
      obtain ⟨i1, i2, _⟩ := rd_back 9 true r k t hx h1
      by_cases c : t.length < k
      · rw [if_pos c] at h; cases h
      · rw [if_neg c] at h
        cases h2 : splN n (t.drop k) with
        | none => rw [h2] at h; cases h
        | some p =>
          obtain ⟨z2, q2⟩ := p
          rw [h2] at h
          simp only [Option.map_some, Option.some.injEq, Prod.mk.injEq] at h
          obtain ⟨rfl, rfl⟩ := h
          obtain ⟨j1, j2, j3⟩ := spl_back n (t.drop k) z2 q2 (fun x hm => hx x (by rw [i1]; exact List.mem_append_right _ (List.mem_of_mem_drop hm))) h2
          have hl : (t.take k).length = k := by rw [List.length_take]; omega
          refine ⟨?_, by simp [j2], ?_⟩
          · rw [cat, hl, i1, List.append_assoc, List.append_assoc, ← j1, List.take_append_drop]
          · intro b hb
            rcases List.mem_cons.1 hb with rfl | hb
            · rw [hl]; exact i2
            · exact j3 b hb
theorem split_join (l : List (List Int)) (hl : l.length < 128 ^ 9) (h : ∀ b ∈ l, b.length < 128 ^ 9) : splitP (joinP l) = some l := by
  unfold splitP joinP
  rw [rd_enc 8 l.length true _ hl (.inr rfl)]
  simp only
  have := cat_len l
  rw [if_neg (by rw [List.length_append]; omega)]
  have hs := spl_cat l [] h
  rw [List.append_nil] at hs
  rw [hs]
theorem split_back {b : List Int} {z : List (List Int)} (hx : ∀ x ∈ b, 0 ≤ x ∧ x < 256) (h : splitP b = some z) : b = joinP z ∧ z.length < 128 ^ 9 ∧ ∀ c ∈ z, c.length < 128 ^ 9 := by
  unfold splitP at h
  cases h1 : rdP 9 true b with
  | none => rw [h1] at h; cases h
  | some p =>
    obtain ⟨n, r⟩ := p
    rw [h1] at h
    simp only at h
    obtain ⟨i1, i2, _⟩ := rd_back 9 true b n r hx h1
    by_cases c : b.length < n
    · rw [if_pos c] at h; cases h
    · rw [if_neg c] at h
      cases h2 : splN n r with
      | none => rw [h2] at h; cases h
      | some p =>
        obtain ⟨z2, q2⟩ := p
        rw [h2] at h
        cases q2 with
        | cons a q2 => cases h
        | nil =>
          simp only [Option.some.injEq] at h
          subst h
          obtain ⟨j1, j2, j3⟩ := spl_back n r _ _ (fun x hm => hx x (by rw [i1]; exact List.mem_append_right _ hm)) h2
          rw [List.append_nil] at j1
          exact ⟨by unfold joinP; rw [j2, ← j1]; exact i1, by rw [j2]; exact i2, j3⟩
theorem split_more (l : List (List Int)) (hl : l.length < 128 ^ 9) (h : ∀ b ∈ l, b.length < 128 ^ 9) (a : Int) (e : List Int) : splitP (joinP l ++ a :: e) = none := by
  unfold splitP joinP
  rw [List.append_assoc, rd_enc 8 l.length true _ hl (.inr rfl)]
  simp only
  have := cat_len l
  rw [if_neg (by rw [List.length_append, List.length_append]; omega), spl_cat l _ h]
theorem split_less (l : List (List Int)) (hl : l.length < 128 ^ 9) (h : ∀ b ∈ l, b.length < 128 ^ 9) (hx : ∀ x ∈ joinP l, 0 ≤ x ∧ x < 256) (p : List Int) (a : Int) (e : List Int) (hp : joinP l = p ++ a :: e) : splitP p = none := by
  cases h1 : splitP p with
  | none => rfl
  | some z =>
    obtain ⟨i1, i2, i3⟩ := split_back (fun x hm => hx x (by rw [hp]; exact List.mem_append_left _ hm)) h1
    have h2 := split_more z i2 i3 a e
    rw [← i1, ← hp, split_join l hl h] at h2
    cases h2
theorem enc_byte : ∀ (n : Nat), ∀ x ∈ enc n, 0 ≤ x ∧ x < 256 := by
  intro n
  induction n using Nat.strongRecOn with
  | _ n ih =>
    by_cases c : n < 128
    · rw [enc_small c]; intro x hm; simp at hm; omega
    · rw [enc_big c]
      intro x hm
      rcases List.mem_cons.1 hm with rfl | hm
      · omega
      · exact ih (n / 128) (by omega) x hm
theorem cat_byte (l : List (List Int)) (h : ∀ b ∈ l, ∀ x ∈ b, 0 ≤ x ∧ x < 256) : ∀ x ∈ cat l, 0 ≤ x ∧ x < 256 := by
  induction l with
  | nil => intro x hm; cases hm
  | cons b r ih =>
    intro x hm
    rcases List.mem_append.1 hm with hm | hm
    · exact enc_byte _ x hm
    · rcases List.mem_append.1 hm with hm | hm
      · exact h b List.mem_cons_self x hm
      · exact ih (fun c hc => h c (List.mem_cons_of_mem _ hc)) x hm
theorem join_byte (l : List (List Int)) (h : ∀ b ∈ l, ∀ x ∈ b, 0 ≤ x ∧ x < 256) : ∀ x ∈ joinP l, 0 ≤ x ∧ x < 256 := by
  intro x hm
  rcases List.mem_append.1 hm with hm | hm
  · exact enc_byte _ x hm
  · exact cat_byte l h x hm
theorem enc_len : ∀ (d n : Nat), n < 128 ^ (d + 1) → (enc n).length ≤ d + 1
  | d, n, h => by
    by_cases c : n < 128
    · rw [enc_small c]; simp
    · cases d with
      | zero => simp at h; omega
      | succ d =>
        rw [enc_big c, List.length_cons]
        have := enc_len d (n / 128) (by rw [Nat.pow_succ] at h; omega)
        omega
end Go.Proofs.Ytdpoifaeimmdmaa.Sp
