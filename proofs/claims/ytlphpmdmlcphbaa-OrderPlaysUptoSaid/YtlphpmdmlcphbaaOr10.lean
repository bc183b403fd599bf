/- Seat E: the names of a set, sorted: maps.Keys and slices.Sorted. -/
import Derived.Test.YtlphpmdmlcphbaaOr9
import Derived.Test.YtlphpmdmlcphbaaIter
namespace Go.Proofs.Ytlphpmdmlcphbaa.Or
open Go Go.RowKit Go.Proofs.Ytlphpmdmlcphbaa.Mem Go.Proofs.YtlphpmdmlcphbaaW.PrintWords Go.Maps Go.Proofs.Ytlphpmdmlcphbaa.Om
set_option linter.unusedVariables false
set_option linter.unusedSimpArgs false
set_option maxRecDepth 100000
set_option maxHeartbeats 4000000
/-- A name's bytes; and back. -/
def toL (x : ByteArray) : List UInt8 := x.data.toList
def ofL (x : List UInt8) : ByteArray := ⟨x.toArray⟩
theorem ofL_toL (x : ByteArray) : ofL (toL x) = x := by cases x; rfl
theorem toL_ofL (x : List UInt8) : toL (ofL x) = x := rfl
theorem toL_inj {x y : ByteArray} (h : toL x = toL y) : x = y := by rw [← ofL_toL x, ← ofL_toL y, h]
/-- Each name of a list once. -/
noncomputable def nub : List ByteArray → List ByteArray
  | [] => []
  | x :: r => if x ∈ r then nub r else x :: nub r
theorem mem_nub {x : ByteArray} : ∀ {S : List ByteArray}, x ∈ nub S ↔ x ∈ S
  | [] => Iff.rfl
  | y :: r => by
    unfold nub
    by_cases h : y ∈ r
    · rw [if_pos h, mem_nub (S := r), List.mem_cons]
      exact ⟨.inr, fun h' => h'.elim (fun e => e ▸ h) id⟩
    · rw [if_neg h, List.mem_cons, List.mem_cons, mem_nub (S := r)]
theorem nub_nodup : ∀ (S : List ByteArray), (nub S).Nodup
  | [] => List.nodup_nil
  | y :: r => by
    unfold nub
    by_cases h : y ∈ r
    · rw [if_pos h]; exact nub_nodup r
    · rw [if_neg h]; exact List.nodup_cons.2 ⟨fun h' => h (mem_nub.1 h'), nub_nodup r⟩
/-- The names of a set, rising. -/
noncomputable def srt (S : List ByteArray) : List ByteArray := (((nub S).map toL).mergeSort leB).map ofL
theorem keys_c : KeysC srt := by
  intro W b n S hM hn
  obtain ⟨D, hown, hD⟩ := hM
  have hsz : Maps.size D ≤ n := by
    first | exact hown.size_le | (obtain ⟨es, cl, hh, F, hs, rfl⟩ := hown; simpa using hs)
  refine ⟨callsIn_wide.1 (Try.maps_Keys_38 (some b) W), (callsIn_wide.1 (Try.slices_Sorted_keys_37_38 b n D Om.vR W hown (by unfold maxLen; omega) (by omega))).mono ?_⟩
  rintro e w' ⟨v, ss, rfl, hperm, hrow, _, hb⟩
  have hc : Collected D (fun _ => false) ((nub S).map toL) := by
    refine ⟨List.pairwise_map.2 ((nub_nodup S).imp fun hne e => hne (toL_inj e)), fun x => ?_⟩
    have h1 := (hD (ofL x)).1
    rw [show Om.key (ofL x) = .string x from rfl] at h1
    rw [h1]
    simp only [List.mem_map, mset, and_true]
    constructor
    · rintro ⟨y, hy, rfl⟩
      rw [ofL_toL, if_pos (mem_nub.1 hy)]
      rfl
    · intro h
      by_cases hx : ofL x ∈ S
      · exact ⟨ofL x, mem_nub.2 hx, rfl⟩
      · rw [if_neg hx] at h; cases h
  have hp := hc.perm hown Om.law9 Om.u9 (fun _ => rfl)
  refine ⟨v, rfl, ?_, ((Below.refl _ W).alloc (Nat.le_refl _) _).trans (hb.mono (by simp))⟩
  have he : (srt S).map Value.string = ((ss.mergeSort leB).map encStr) := by
    unfold srt
    rw [mergeSort_of_perm (hp.trans hperm.symm), List.map_map]
    rfl
  have hl : (srt S).length = ss.length := by
    have := congrArg List.length he
    simpa using this
  unfold OwnS
  rw [he, hl]
  have h2 := hrow
  exact own_weaken h2 (by simp)
end Go.Proofs.Ytlphpmdmlcphbaa.Or
