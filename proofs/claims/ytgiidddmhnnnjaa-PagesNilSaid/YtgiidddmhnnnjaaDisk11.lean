/- all: all sectors of a disk. -/
import Derived.Test.YtgiidddmhnnnjaaDisk10
namespace Go.Proofs.Ytgiidddmhnnnjaa.Dk
open Go.RowKit Go.Proofs.Ytgiidddmhnnnjaa.Mem Go.Proofs.YtgiidddmhnnnjaaW.PrintWords
set_option linter.unusedVariables false
set_option linter.unusedSimpArgs false
variable {w : World} {base g n : Nat} {ok : Nat → Prop} {x : DV}
theorem take_sec (l : List Int) (k : Nat) : l.take (k * 32) ++ sec l (k : Int) = l.take ((k + 1) * 32) := by
  unfold sec
  rw [Int.toNat_natCast, show (k + 1) * 32 = k * 32 + 32 by omega, List.take_add]
set_option maxHeartbeats 4000000 in
set_option maxRecDepth 100000 in
theorem all_any (h : Hid (IsDisk w base ok g x)) (hg : Good x n) (hlife : x.life ≠ 0) : Calls Try.prog 13 #[.pointer (some ⟨g, 0, none⟩)] w fun e w' => ∃ v, e = .returned v ∧ (Kd.int .u8).R 5 w' w.heap.size (fun _ => True) v x.seen ∧ Below w.heap.size w w' := by
  have HG := Lib.hid hg
  have hn := hg.n2
  have HF := Lib.hid hlife
  clear hg hlife
  go_enter Try.func13, Try.ntmps13
  go_wp2_with fail
  go_loopg [3, 4] n (fun m vb i wr => ∃ k : Nat, i = .int .i64 k ∧ (∃ Ab lb cb, vb = .slice Ab lb cb ∧ Aside1 ((Kd.int .u8).R 5 wr w.heap.size (fun _ => True) (.slice Ab lb cb) (x.seen.take (k * 32)))) ∧ Aside1 (k + m = n ∧ Below w.heap.size w wr))
  case atStart => exact ⟨0, rfl, ⟨none, 0, 0, rfl, ⟨by rw [Nat.zero_mul, List.take_zero]; exact Kd.R_nil _ _ _ _ _⟩⟩, ⟨Nat.zero_add _, Below.refl _ _⟩⟩
  case round =>
    obtain ⟨k, rfl, ⟨Ab, lb, cb, rfl, hR⟩, hA⟩ := hrel
    have HR := Lib.hid hR.out
    have HM := Lib.hid hA.out.1
    have HB := Lib.hid hA.out.2
    clear hR hA
    have HI := Lib.hid (IsDisk.keep h.out (Only.of_below HB.out (fun _ => False)) (fun _ _ h => h))
    by_cases hk : k < n
    · have hki : (k : Int) < (n : Int) := by omega
      have hck : chk x.life (k : Int) (n : Int) = 0 := by unfold chk; rw [if_neg HF.out, if_neg (by omega)]
      have RD := dk_read HI.out HG.out hn (k : Int)
      rw [hck, if_pos rfl] at RD
      have HRD := Lib.hid RD
      have hw1 : Hid (wrap64 ((k : Int) + 1) = ((k + 1 : Nat) : Int)) := Lib.hid (by unfold wrap64; omega)
      have hsl := Lib.hid (sec_length x.seen n (k : Int) HG.out.seen (by omega) (by omega))
      clear RD hck
      go_wp2_with (first
        | (go_at_call 17; refine (dk_len HI.out HG.out).mono ?_; rintro e w' ⟨rfl, rfl⟩)
        | (go_at_call 21; refine HRD.out.mono ?_; rintro e w2 ⟨v, rfl, r2, b2⟩; obtain ⟨A2, c2, e2⟩ := Kd.R_slice r2; subst e2; have R2 := Lib.hid r2; have B2 := Lib.hid b2; have HB2 := Lib.hid (((Only.of_below HB.out (fun _ => False)).step (Only.of_below b2 (fun _ => False)) (fun _ _ h => h)).below_all); clear r2 b2)
        | ((with_reducible refine gate_builtin (b := .append) (xs := #[.tmp 19, .tmp 20]) rfl ?_); at_builtin; refine Kd.R_append_rows (Kd.int .u8) (w0 := w) w.heap.size rfl (.tmp 19) (.tmp 20) 29 5 (.int .u8 0) 1 rfl Try.underlying29 info5 rfl (by decide) (by omega) (.slice Ab lb cb) (x.seen.take (k * 32)) (sec x.seen (k : Int)) _ _ _ (fun _ => True) (fun _ => False) rfl rfl (Kd.R_below HR.out B2.out) (Kd.R_reads' R2.out).2.2 (fun _ _ h => h) (fun _ h => h.elim) (fun _ _ => trivial) HB2.out HB2.out.size ?aL ?_; (case aL => rw [List.length_take, hsl.out]; omega); intro v3 w3 ho hb hg3 hat; obtain ⟨A3, c3, ev3⟩ := Kd.R_slice ho; obtain ⟨n3, hn3⟩ : ∃ n3, n3 = (x.seen.take (k * 32) ++ sec x.seen (k : Int)).length := ⟨_, rfl⟩; rw [← hn3] at ev3; clear hn3; subst ev3; have R3 := Lib.hid ho; have B3 := Lib.hid hb; clear ho hb hg3 hat)
        | fail)
      go_roundg (gk - 1)
      case measure => have := HM.out; omega
      case rel => exact ⟨k + 1, (by first | exact congrArg (Value.int .i64) hw1.out | exact congrArg (Value.int .i64) (by omega)), ⟨A3, n3, c3, rfl, ⟨by have h9 := R3.out; rw [take_sec] at h9; exact h9⟩⟩, ⟨by have := HM.out; omega, B3.out⟩⟩
    · have hki : ¬ (k : Int) < (n : Int) := by omega
      go_wp2_with (first
        | (go_at_call 17; refine (dk_len HI.out HG.out).mono ?_; rintro e w' ⟨rfl, rfl⟩)
        | fail)
      go_ret
      have hkn : k = n := by have := HM.out; omega
      subst hkn
      have h9 := HR.out
      rw [← HG.out.seen, List.take_length] at h9
      exact ⟨_, rfl, h9, HB.out⟩
end Go.Proofs.Ytgiidddmhnnnjaa.Dk
