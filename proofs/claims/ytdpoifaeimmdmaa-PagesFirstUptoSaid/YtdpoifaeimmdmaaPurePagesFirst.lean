/- The numbers that First gives: the places that are free, in order, so many as are asked. -/
import Derived.Test.YtdpoifaeimmdmaaPPagesFirstx2
import Derived.Test.YtdpoifaeimmdmaaPagesPure
namespace Go.Proofs.Ytdpoifaeimmdmaa.Pure
set_option linter.unusedVariables false
set_option linter.unusedSimpArgs false
open Go.RowKit Go.Proofs.YtdpoifaeimmdmaaW.PrintWords
namespace PagesFirstP
open Go.Proofs.Ytdpoifaeimmdmaa.Hand Go.Proofs.Ytdpoifaeimmdmaa.Pp
theorem all_b {xs : List Int} (h : ∀ x ∈ xs, 0 ≤ x ∧ x < 256) : (xs.all fun x => decide (0 ≤ x) && decide (x < 256)) = true := by
  rw [List.all_eq_true]
  intro x hx
  have := h x hx
  simp [this]
theorem pack_f (a : Int) (xs : List Int) (ha : 0 ≤ a ∧ a < 4294967296) (h : ∀ x ∈ xs, 0 ≤ x ∧ x < 256) : PPagesFirst.pages_Pack.f a xs = some (pck a xs) := by
  unfold PPagesFirst.pages_Pack.f
  rw [if_pos ha.1, if_pos ha.2, if_pos (all_b h)]
theorem awake3 : PPagesFirst.quirelaw03_awake.f = some true := by
  unfold PPagesFirst.quirelaw03_awake.f
  rw [pack_f 7 [1] (by omega) (by intro x hx; simp at hx; omega)]
  have hp : pck 7 [1] = (packed 7 [1], 0) := if_pos (by decide)
  have hl := packed_length 7 [1] (by decide)
  rw [hp]
  simp only [Option.bind_some, if_true]
  have hr : rd (packed 7 [1]) 4 = 7 := by decide
  rw [hl, if_pos (show ((128 : Nat) : Int) = 128 from rfl), if_pos (by decide), hr]
  rfl
/-- The places of a list that are free, from i on. -/
def frees : Nat → List Bool → List Int
  | _, [] => []
  | i, b :: t => if b = true then frees (i + 1) t else (i : Int) :: frees (i + 1) t
theorem rdOf_drop (l : List Bool) (i : Nat) (h : i < l.length) : l.drop i = rdOf false l (i : Int) :: l.drop (i + 1) := by
  rw [List.drop_eq_getElem_cons h]
  congr 1
  show l[i] = l.getD (Int.toNat i) false
  rw [Int.toNat_natCast]
  simp [h]
theorem frees_step (l : List Bool) (i : Nat) (h : i < l.length) : frees i (l.drop i) = if rdOf false l (i : Int) = true then frees (i + 1) (l.drop (i + 1)) else (i : Int) :: frees (i + 1) (l.drop (i + 1)) := by
  rw [rdOf_drop l i h, frees]
theorem first_l0 (l : List Bool) (hl : l.length ≤ 2097152) (a : Nat) (d : Nat) : ∀ (k i : Nat) (acc : List Int), i + d = l.length → d + 1 ≤ k → acc.length ≤ i → acc.length ≤ a →
    PPagesFirst.pages_First.l0 k (a : Int) acc l (l.length : Int) (i : Int) = some (if acc.length + (frees i (l.drop i)).length < a then ([], 7) else (acc ++ (frees i (l.drop i)).take (a - acc.length), 0)) := by
  induction d with
  | zero =>
    intro k i acc h hk h1 h2
    obtain ⟨k, rfl⟩ : ∃ m, k = m + 1 := ⟨k - 1, by omega⟩
    rw [PPagesFirst.pages_First.l0, if_neg (by omega)]
    have e : l.drop i = [] := List.drop_eq_nil_of_le (by omega)
    rw [e]
    by_cases hlt : acc.length < a
    · rw [if_pos (by omega), if_pos (by simp [frees]; exact hlt)]
    · rw [if_neg (by omega), if_neg (by simp [frees]; omega)]
      simp [frees]
  | succ d ih =>
    intro k i acc h hk h1 h2
    obtain ⟨k, rfl⟩ : ∃ m, k = m + 1 := ⟨k - 1, by omega⟩
    rw [PPagesFirst.pages_First.l0, if_pos (by omega), if_pos (by omega), if_pos (by omega), frees_step l i (by omega), w64 (by omega) (by omega), show (i : Int) + 1 = ((i + 1 : Nat) : Int) by omega]
    by_cases hb : rdOf false l (i : Int) = true
    · rw [if_pos hb, if_pos hb]
      exact ih k (i + 1) acc (by omega) (by omega) (by omega) (by omega)
    · rw [if_neg hb, if_neg hb]
      by_cases hlt : acc.length < a
      · rw [if_pos (by omega), if_pos (by omega), ih k (i + 1) (acc ++ [(i : Int)]) (by omega) (by omega) (by simp; omega) (by simp; omega)]
        obtain ⟨m, hm⟩ : ∃ m, a - acc.length = m + 1 := ⟨a - acc.length - 1, by omega⟩
        have hm2 : a - (acc ++ [(i : Int)]).length = m := by simp; omega
        rw [hm2, hm, List.take_succ_cons, List.length_cons, List.length_append, List.length_singleton]
        have e1 : (acc.length + 1 + (frees (i + 1) (l.drop (i + 1))).length < a) = (acc.length + ((frees (i + 1) (l.drop (i + 1))).length + 1) < a) := by
          apply propext; omega
        simp only [e1, List.append_assoc, List.singleton_append]
      · have ea : a = acc.length := by omega
        rw [if_neg (by omega), ih k (i + 1) acc (by omega) (by omega) (by omega) (by omega)]
        rw [if_neg (by omega), if_neg (by simp; omega), show a - acc.length = 0 by omega, List.take_zero, List.take_zero]
theorem first_f (l : List Bool) (hl : l.length ≤ 2097152) (a : Nat) (k : Nat) (hk : l.length + 1 ≤ k) :
    PPagesFirst.pages_First.f k l (a : Int) = some (if (frees 0 l).length < a then ([], 7) else ((frees 0 l).take a, 0)) := by
  unfold PPagesFirst.pages_First.f
  rw [if_neg (by omega), show (0 : Int) = ((0 : Nat) : Int) from rfl, first_l0 l hl a l.length k 0 [] (by omega) hk (by simp) (by simp)]
  simp
theorem law_l0 (l : List Bool) (hl : l.length ≤ 2097152) (n : Nat) (hn : n ≤ 2097152) (L : List Int) (hL : L.length = n) (d : Nat) : ∀ (k i kk : Nat), i + d = l.length → 2 * d + 2 ≤ k → kk ≤ n → L.drop kk = (frees i (l.drop i)).take (n - kk) →
    PPagesFirst.quirelaw03_PagesFirst.l0 k l (n : Int) L (kk : Int) (i : Int) = some true := by
  induction d with
  | zero =>
    intro k i kk h hk h1 h2
    obtain ⟨k, rfl⟩ : ∃ m, k = m + 2 := ⟨k - 2, by omega⟩
    have e : l.drop i = [] := List.drop_eq_nil_of_le (by omega)
    rw [e] at h2
    have hz : L.length ≤ kk := by
      have := congrArg List.length h2
      simp [frees] at this
      omega
    rw [PPagesFirst.quirelaw03_PagesFirst.l0, if_neg (by omega), PPagesFirst.quirelaw03_PagesFirst.j1, if_neg (by decide)]
    congr 1
    have : (kk : Int) = (n : Int) := by omega
    rw [this]; simp
  | succ d ih =>
    intro k i kk h hk h1 h2
    obtain ⟨k, rfl⟩ : ∃ m, k = m + 2 := ⟨k - 2, by omega⟩
    rw [PPagesFirst.quirelaw03_PagesFirst.l0, if_pos (by omega), PPagesFirst.quirelaw03_PagesFirst.j1]
    by_cases hkn : kk < n
    · rw [if_pos (by simp; omega), if_pos (by omega), if_pos (by omega), w64 (by omega) (by omega), show (i : Int) + 1 = ((i + 1 : Nat) : Int) by omega]
      rw [frees_step l i (by omega)] at h2
      by_cases hb : rdOf false l (i : Int) = true
      · rw [if_pos hb] at h2 ⊢
        exact ih k (i + 1) kk (by omega) (by omega) h1 h2
      · rw [if_neg hb] at h2 ⊢
        have hlt : kk < L.length := by omega
        obtain ⟨m, hm⟩ : ∃ m, n - kk = m + 1 := ⟨n - kk - 1, by omega⟩
        rw [hm, List.take_succ_cons, List.drop_eq_getElem_cons hlt] at h2
        have h3 := List.cons.inj h2
        have hr : rd L (kk : Int) = (i : Int) := by
          show L.getD (Int.toNat kk) 0 = _
          rw [Int.toNat_natCast, List.getD_eq_getElem?_getD, List.getElem?_eq_getElem hlt]
          exact h3.1
        rw [if_pos (by omega), if_pos (by omega), if_pos hr, w64 (by omega) (by omega), show (kk : Int) + 1 = ((kk + 1 : Nat) : Int) by omega]
        exact ih k (i + 1) (kk + 1) (by omega) (by omega) (by omega) (by rw [show n - (kk + 1) = m by omega]; exact h3.2)
    · rw [if_neg (by simp; omega)]
      congr 1
      have : (kk : Int) = (n : Int) := by omega
      rw [this]; simp
theorem frees_len (l : List Bool) : ∀ i, (frees i l).length ≤ l.length := by
  induction l with
  | nil => intro i; simp [frees]
  | cons b t ih =>
    intro i
    rw [frees]
    split
    · have := ih (i + 1); simp; omega
    · have := ih (i + 1); simp; omega
end PagesFirstP
open PagesFirstP in
theorem PagesFirst (l : List Bool) (n : Int) (hl : l.length ≤ 1048576) : ∃ k, PPagesFirst.quirelaw03_PagesFirst.f k l n = some true := by
  refine ⟨2 * l.length + 2, ?_⟩
  unfold PPagesFirst.quirelaw03_PagesFirst.f
  rw [awake3]
  simp only [Option.bind_some, if_true, List.nil_append, List.length_nil, Nat.zero_add]
  rw [if_pos (by omega)]
  by_cases hn : n < 0
  · unfold PPagesFirst.pages_First.f
    rw [if_pos hn]
    simp only [Option.bind_some, List.length_nil]
    rw [if_neg (by decide), if_pos (by decide), if_pos hn]
    rfl
  · obtain ⟨a, rfl⟩ := Int.eq_ofNat_of_zero_le (show 0 ≤ n by omega)
    rw [first_f l (by omega) a _ (by omega)]
    simp only [Option.bind_some]
    have hfl := frees_len l 0
    by_cases hlt : (frees 0 l).length < a
    · rw [if_pos hlt]
      simp only [List.length_nil]
      rw [if_neg (by decide), if_pos (by decide), if_neg (by omega), if_pos trivial]
      congr 1
      exact decide_eq_true (by omega)
    · rw [if_neg hlt]
      have hlen : ((frees 0 l).take a).length = a := by rw [List.length_take]; omega
      simp only [if_true, hlen]
      have := law_l0 l (by omega) a (by omega) _ hlen l.length (2 * l.length + 2) 0 0 (by omega) (by omega) (by omega) (by simp)
      exact this
end Go.Proofs.Ytdpoifaeimmdmaa.Pure
