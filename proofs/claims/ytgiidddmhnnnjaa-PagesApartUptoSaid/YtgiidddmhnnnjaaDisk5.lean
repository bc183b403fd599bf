/- Full; awake. -/
import Derived.Test.YtgiidddmhnnnjaaDisk4
import Derived.Test.YtgiidddmhnnnjaaPDiskApartx1
namespace Go.Proofs.Ytgiidddmhnnnjaa.Dk
open Go.RowKit Go.Proofs.Ytgiidddmhnnnjaa.Mem Go.Proofs.YtgiidddmhnnnjaaW.PrintWords
set_option linter.unusedVariables false
set_option linter.unusedSimpArgs false
/-- Bytes cut or filled up to a sector. -/
def full (l : List Int) : List Int := (l ++ zeros 32).take 32
theorem full_length (l : List Int) : (full l).length = 32 := by simp [full, zeros]
theorem full_bytes (l : List Int) (h : ∀ x ∈ l, 0 ≤ x ∧ x < 256) : ∀ x ∈ full l, 0 ≤ x ∧ x < 256 := by
  intro x hx
  rcases List.mem_append.1 (List.mem_of_mem_take hx) with h1 | h1
  · exact h x h1
  · have := List.eq_of_mem_replicate h1
    omega
theorem full_of_ge (l : List Int) (h : 32 ≤ l.length) : full l = l.take 32 := by unfold full; rw [List.take_append_of_le_length h]
theorem full_of_le (l : List Int) (h : l.length ≤ 32) : full l = l ++ zeros (32 - l.length) := by
  unfold full
  rw [List.take_append, List.take_of_length_le h]
  congr 1
  unfold zeros
  rw [List.take_replicate]
  congr 1
  omega
theorem full_l0 (l : List Int) (hl : l.length ≤ 140737488355328) (d : Nat) : ∀ (k i : Nat), i + d = 32 → d + 1 ≤ k → i ≤ l.length → PDiskApart.quirelaw01_Full.l0 k l (l.take i ++ zeros d) (i : Int) = some (full l) := by
  induction d with
  | zero =>
    intro k i h hk hi
    obtain ⟨k, rfl⟩ : ∃ m, k = m + 1 := ⟨k - 1, by omega⟩
    have e : l.take i ++ zeros 0 = full l := by
      rw [full_of_ge l (by omega), show i = 32 by omega]; simp [zeros]
    have hlen : (l.take i ++ zeros 0).length = 32 := by rw [e, full_length]
    rw [PDiskApart.quirelaw01_Full.l0]
    by_cases c : (i : Int) < (l.length : Int)
    · rw [if_pos c, if_neg (by rw [hlen]; omega), e]
    · rw [if_neg c, e]
  | succ d ih =>
    intro k i h hk hi
    obtain ⟨k, rfl⟩ : ∃ m, k = m + 1 := ⟨k - 1, by omega⟩
    have hlen : (l.take i ++ zeros (d + 1)).length = 32 := by simp [zeros]; omega
    rw [PDiskApart.quirelaw01_Full.l0]
    by_cases c : i < l.length
    · rw [if_pos (by omega), if_pos (by rw [hlen]; omega), if_pos (by omega)]
      have e : (l.take i ++ zeros (d + 1)).set ((i : Int)).toNat (rd l (i : Int)) = l.take (i + 1) ++ zeros d := by
        have hr : rd l (i : Int) = l[i] := by simp [rd, c]
        rw [Int.toNat_natCast, hr, List.set_append_right _ _ (by simp; omega)]
        have : i - (l.take i).length = 0 := by simp; omega
        rw [this, List.take_succ_eq_append_getElem c, List.append_assoc]
        rfl
      have ew : wrap64 ((i : Int) + 1) = ((i + 1 : Nat) : Int) := by unfold wrap64; omega
      rw [e, ew]
      exact ih k (i + 1) (by omega) (by omega) (by omega)
    · rw [if_neg (by omega), full_of_le l (by omega), List.take_of_length_le (by omega), show 32 - l.length = d + 1 by omega]
theorem full_f (l : List Int) (hl : l.length ≤ 140737488355328) (k : Nat) (hk : 33 ≤ k) : PDiskApart.quirelaw01_Full.f k l = some (full l) := by
  unfold PDiskApart.quirelaw01_Full.f
  rw [if_pos (by decide)]
  have := full_l0 l hl 32 k 0 (by omega) hk (by omega)
  exact this
theorem full_any (A : Option Addr) (c : Nat) (l : List Int) (w : World) (hr : (Kd.int .u8).C w A l.length l) (hc : l.length ≤ c) (hl : l.length ≤ 140737488355328) :
    Calls Try.prog 19 #[.slice A l.length c] w fun e w' => ∃ v, e = .returned v ∧ (Kd.int .u8).R 5 w' w.heap.size (fun _ => True) v (full l) ∧ Below w.heap.size w w' :=
  PDiskApart.quirelaw01_Full.calls 33 A c l (full l) w hr hc (full_f l hl 33 (Nat.le_refl _))
end Go.Proofs.Ytgiidddmhnnnjaa.Dk
