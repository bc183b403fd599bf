/- SameBytes: whether two rows of bytes are the same. -/
import Derived.Test.YtgiidddmhnnnjaaBase
namespace Go.Proofs.Ytgiidddmhnnnjaa.Dk
open Go.RowKit Go.Proofs.Ytgiidddmhnnnjaa.Mem Go.Proofs.YtgiidddmhnnnjaaW.PrintWords
set_option linter.unusedVariables false
theorem same_l0 (a b : List Int) (hab : a.length = b.length) (hl : a.length ≤ 140737488355328) (d : Nat) : ∀ (k i : Nat), i + d = a.length → d + 1 ≤ k → a.take i = b.take i → PDiskApart.quireref01_SameBytes.l0 k a b (i : Int) = some (decide (a = b)) := by
  induction d with
  | zero =>
    intro k i h hk he
    obtain ⟨k, rfl⟩ : ∃ m, k = m + 1 := ⟨k - 1, by omega⟩
    rw [PDiskApart.quireref01_SameBytes.l0, if_neg (by omega)]
    rw [List.take_of_length_le (by omega), List.take_of_length_le (by omega)] at he
    simp [he]
  | succ d ih =>
    intro k i h hk he
    obtain ⟨k, rfl⟩ : ∃ m, k = m + 1 := ⟨k - 1, by omega⟩
    rw [PDiskApart.quireref01_SameBytes.l0, if_pos (by omega), if_pos (by omega), if_pos (by omega)]
    have h1 : i < a.length := by omega
    have h2 : i < b.length := by omega
    have ha : rd a (i : Int) = a[i] := by simp [rd, h1]
    have hb : rd b (i : Int) = b[i] := by simp [rd, h2]
    rw [ha, hb]
    by_cases hx : a[i] = b[i]
    · rw [if_pos hx]
      have ew : wrap64 ((i : Int) + 1) = ((i + 1 : Nat) : Int) := by unfold wrap64; omega
      rw [ew]
      refine ih k (i + 1) (by omega) (by omega) ?_
      rw [List.take_succ_eq_append_getElem h1, List.take_succ_eq_append_getElem h2, he, hx]
    · rw [if_neg hx]
      have : ¬ a = b := fun e => hx (by subst e; rfl)
      simp [this]
theorem same_f (a b : List Int) (hl : a.length ≤ 140737488355328) : PDiskApart.quireref01_SameBytes.f (a.length + 1) a b = some (decide (a = b)) := by
  unfold PDiskApart.quireref01_SameBytes.f
  by_cases h : a.length = b.length
  · rw [if_pos (by omega)]
    exact same_l0 a b h hl a.length _ 0 (by omega) (by omega) rfl
  · rw [if_neg (by omega)]
    have : ¬ a = b := fun e => h (by rw [e])
    simp [this]
theorem same_any (A B : Option Addr) (c c' : Nat) (a b : List Int) (w : World) (ha : (Kd.int .u8).C w A a.length a) (hc : a.length ≤ c) (hb : (Kd.int .u8).C w B b.length b) (hc' : b.length ≤ c') (hl : a.length ≤ 140737488355328) :
    Calls Try.prog 20 #[.slice A a.length c, .slice B b.length c'] w fun e w' => e = .returned (.bool (decide (a = b))) ∧ Below w.heap.size w w' := by
  refine (PDiskApart.quireref01_SameBytes.calls (a.length + 1) A c a B c' b _ w ha hc hb hc' (same_f a b hl)).mono ?_
  rintro e w' ⟨rfl, h⟩
  exact ⟨rfl, by first | exact h | exact h.below⟩
theorem same_rows {base base' : Nat} {ok ok' : Nat → Prop} {v v' : Value} {a b : List Int} {w : World} (ha : (Kd.int .u8).R 5 w base ok v a) (hb : (Kd.int .u8).R 5 w base' ok' v' b) (hl : a.length ≤ 140737488355328) (he : a = b) :
    Calls Try.prog 20 #[v, v'] w fun e w' => e = .returned (.bool true) ∧ Below w.heap.size w w' := by
  obtain ⟨A, c, rfl⟩ := Kd.R_slice ha
  obtain ⟨B, c', rfl⟩ := Kd.R_slice hb
  have r1 := Kd.R_reads' ha
  have r2 := Kd.R_reads' hb
  refine (same_any A B c c' a b w r1.2.2 r1.2.1 r2.2.2 r2.2.1 hl).mono ?_
  rintro e w' ⟨rfl, h⟩
  exact ⟨by rw [decide_eq_true he], h⟩
end Go.Proofs.Ytgiidddmhnnnjaa.Dk
