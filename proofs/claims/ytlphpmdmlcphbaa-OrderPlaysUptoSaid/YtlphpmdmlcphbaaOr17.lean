/- Seat E: vocabularies that are handed over; vocabs, walked. -/
import Derived.Test.YtlphpmdmlcphbaaOr16
namespace Go.Proofs.Ytlphpmdmlcphbaa.Or
open Go Go.RowKit Go.Proofs.Ytlphpmdmlcphbaa.Mem Go.Proofs.YtlphpmdmlcphbaaW.PrintWords Go.Maps Go.Proofs.Ytlphpmdmlcphbaa.Om
set_option linter.unusedVariables false
set_option linter.unusedSimpArgs false
set_option maxRecDepth 100000
set_option maxHeartbeats 400000
theorem VC_of_R {w : World} {base : Nat} {ok : Nat → Prop} {A : Option Addr} {c : Nat} {l : List Vo} (h : kV.R 41 w base ok (.slice A l.length c) l) : VC w A l ∧ l.length ≤ c := by
  obtain ⟨A', c', hv, hc, hC⟩ := Kd.R_reads h
  injection hv with e1 _ e2
  subst e1; subst e2
  refine ⟨fun k hk => ?_, hc⟩
  obtain ⟨h0, inner, hown, hr⟩ := h
  obtain ⟨ad, Au, cu, hA, e1, e2, hCu, hcu⟩ := vocab_at hC rfl k hk
  refine ⟨ad, Au, cu, hA, e1, e2, hCu, hcu, ?_⟩
  obtain ⟨c0, c1, hcs, hc0, v, rfl, hRv⟩ := hr.2 k l[k] (List.getElem?_eq_getElem hk)
  obtain rfl : c0 = [.string (l[k]).1] := hc0
  rcases hown.2 with ⟨_, hn⟩ | ⟨g, cap, cur, hov, hb, hg, hl, hm, hs, ht⟩
  · omega
  · injection hov with q1 q2 q3
    rw [q1] at hA
    injection hA with hA
    subst hA
    have hcell : w.cell? ⟨g, k * 2 + 1, none⟩ = some v := by
      rw [cell_of_row w g (k * 2 + 1) cur 41 (0, 0) hg]
      have h2 : inner[k * 2 + 1]? = some v := by
        have h3 := congrArg (fun (l : List Value) => l[1]?) hcs
        simp only [List.getElem?_take, List.getElem?_drop] at h3
        rw [show kV.sz = 2 from rfl] at h3
        simpa using h3
      rw [← ht, List.getElem?_take] at h2
      split at h2
      · rw [← Array.getElem?_toList]; exact h2
      · cases h2
    rw [add_flat] at e2
    simp only [Nat.zero_add] at e2
    rw [hcell] at e2
    injection e2 with e2
    subst e2
    rcases (Kd.own_of_R hRv).2 with ⟨hv, _⟩ | ⟨g', cap', cur', hv, _⟩
    · injection hv with r1 r2 r3
      exact .inl ⟨r1, r3⟩
    · injection hv with r1 r2 r3
      exact .inr ⟨g', 0, r1⟩
theorem vocabs_c (A : Option Addr) (c : Nat) (l : List Vo) (w : World) (hC : kV.C w A l.length l) (hF : Fine l) :
    Calls Try.prog 9 #[.slice A l.length c] w fun e w' => ∃ A' c', e = .returned (.slice A' l.length c') ∧ kV.R 41 w' w.heap.size (fun _ => True) (.slice A' l.length c') l ∧ Below w.heap.size w w' := by
  have HA := Lib.hid (api_c A c l w hC hF)
  clear hC hF
  have hfd : ∀ (w : World) (B : Option Addr) (n d : Nat), (Instr.field 57 (.agg #[.slice B n d, .slice none 0 0]) 0).run Try.prog w = .ok (.slice B n d) w := fun _ _ _ _ => by kernel_rfl
  go_enter Try.func9, Try.ntmps9
  go_wp2_with (first
    | (go_at_call 23; go_loud (refine HA.out.mono ?_); rintro e w1 ⟨A1, c1, rfl, r1, b1⟩; have R1 := Lib.hid r1; have B1 := Lib.hid b1; clear r1 b1)
    | fail)
  go_ret
  exact ⟨_, _, rfl, R1.out, B1.out⟩
end Go.Proofs.Ytlphpmdmlcphbaa.Or
