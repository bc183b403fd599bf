/- Seat E: slices.Min of names. -/
import Derived.Test.YtlphpmdmlcphbaaOr6
namespace Go.Proofs.Ytlphpmdmlcphbaa.Or
open Go.RowKit Go.Proofs.Ytlphpmdmlcphbaa.Mem Go.Proofs.YtlphpmdmlcphbaaW.PrintWords Go.Maps Go.Proofs.Ytlphpmdmlcphbaa.Om
set_option linter.unusedVariables false
set_option linter.unusedSimpArgs false
set_option maxRecDepth 100000
set_option maxHeartbeats 4000000
/-- The lesser of two names. -/
def mn2 (x y : ByteArray) : ByteArray := if (Op.bytesLess x.toList y.toList || x.toList == y.toList) then x else y
/-- The least of a list that is not empty. -/
def mnL (b : List ByteArray) : ByteArray := b.tail.foldl mn2 (b.headD ByteArray.empty)
theorem run_min_str (ts : Array TypeId) (t : TypeId) (x y : ByteArray) (w : World) : (Builtin.min_ ts t #[.string x, .string y]).run Try.prog w = .ok (.string (mn2 x y)) w := by
  simp [Builtin.min_, Builtin.min2, mn2, Op.stringOp, asBool, Result.andThen]
theorem min_c0 (W : World) (base : Nat) (v : Value) (b : List ByteArray) (hO : OwnS W base v b) (hne : b ≠ []) (hl : b.length ≤ 16777216) : Calls Try.prog 20 #[v] W fun e W' => e = .returned (.string (mnL b)) ∧ Below W.heap.size W W' := by
  obtain ⟨A, c, rfl⟩ := OwnS.slice hO
  have hC : Kd.string.C W A b.length b := by
    obtain ⟨A', c', hv, hc, hC⟩ := Kd.R_reads (Kd.R_of_own (enc := Value.string) (h1 := fun _ => rfl) (ok := fun _ => True) hO (fun _ _ => trivial))
    injection hv with hA _ _
    subst hA
    exact hC
  have hpos : 0 < b.length := List.length_pos_iff.2 hne
  have hli : (b.length : Int) ≤ 16777216 := by omega
  have hlp : (1 : Int) ≤ (b.length : Int) := by omega
  obtain ⟨ad, rfl, e0⟩ := name_at hC rfl 0 hpos
  have HC := Lib.hid hC
  rw [show ad.add 0 = ad from by simp [Addr.add]] at e0
  obtain ⟨x0, hx0⟩ : ∃ x0, b[0] = x0 := ⟨_, rfl⟩
  rw [hx0] at e0
  have hx1 : Hid ((b.take 1).tail.foldl mn2 (b.headD ByteArray.empty) = x0) := Lib.hid (by
    cases b with
    | nil => cases hpos
    | cons y r => simpa using hx0)
  have hrm := run_min_str
  clear hC hO hx0 hne hpos
  go_enter Try.func20, Try.ntmps20
  go_wp2_with fail
  go_loopg [3, 4] b.length (fun m sv iv wz => ∃ (k : Nat) (s : ByteArray), iv = .int .i64 k ∧ sv = .string s ∧ wz = W ∧ Aside1 (1 ≤ k ∧ k ≤ b.length ∧ m + k = b.length + 1 ∧ (b.take k).tail.foldl mn2 (b.headD ByteArray.empty) = s))
  case atStart => exact ⟨1, x0, rfl, rfl, rfl, ⟨by omega, by omega, by omega, hx1.out⟩⟩
  case round =>
    obtain ⟨k, s, rfl, rfl, rfl, ⟨hk⟩⟩ := hrel
    have HK := Lib.hid hk
    by_cases hkl : k < b.length
    · have hki : (k : Int) < (b.length : Int) := by omega
      obtain ⟨ad', hA, e1⟩ := name_at HC.out rfl k hkl
      obtain rfl : ad = ad' := by injection hA
      obtain ⟨x, hx⟩ : ∃ x, b[k] = x := ⟨_, rfl⟩
      rw [hx] at e1
      have hst : (b.take (k + 1)).tail.foldl mn2 (b.headD ByteArray.empty) = mn2 s x := by
        have h2 : (b.take (k + 1)).tail = (b.take k).tail ++ [x] := by
          rw [List.take_succ_eq_append_getElem hkl, hx]
          exact List.tail_append_of_ne_nil (by intro h; have h3 := congrArg List.length h; simp at h3; rcases h3 with h3 | h3; have := HK.out.1; omega; rw [h3] at hkl; simp at hkl)
        rw [h2, List.foldl_append, HK.out.2.2.2]
        rfl
      have HST := Lib.hid hst
      clear hk hst hx
      go_wp2_with fail
      go_roundg (gk - 1)
      case measure => have := HK.out; omega
      case rel => exact ⟨k + 1, mn2 s x, (by simp), rfl, rfl, ⟨by omega, by omega, by have := HK.out; omega, HST.out⟩⟩
    · obtain rfl : k = b.length := by have := hk.2.1; omega
      have hfin : mnL b = s := by
        have h := hk.2.2.2
        rw [List.take_length] at h
        exact h
      have HFIN := Lib.hid hfin
      clear hk hfin
      go_wp2
      go_ret
      exact ⟨by rw [HFIN.out]; rfl, Below.refl _ _⟩
theorem min_ok : MinC mnL := fun W base v b hO hne hl => min_c0 W base v b hO hne hl
end Go.Proofs.Ytlphpmdmlcphbaa.Or
