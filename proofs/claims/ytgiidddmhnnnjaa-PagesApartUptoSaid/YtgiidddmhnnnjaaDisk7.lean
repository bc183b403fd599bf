/- awake: a disk of two sectors, a write, a read. -/
import Derived.Test.YtgiidddmhnnnjaaDisk6
namespace Go.Proofs.Ytgiidddmhnnnjaa.Dk
open Go.RowKit Go.Proofs.Ytgiidddmhnnnjaa.Mem Go.Proofs.YtgiidddmhnnnjaaW.PrintWords
set_option linter.unusedVariables false
set_option linter.unusedSimpArgs false
theorem C_of_blk {w : World} {g o n : Nat} {t : TypeId} {k : IntKind} {xs : List Int} (hb : Blk w g t (icells k xs)) (h : o + n ≤ xs.length) (hx : xs.length ≤ 9223372036854775807) : (Kd.int k).C w (some ⟨g, o, none⟩) n ((xs.drop o).take n) := by
  have hl : ((xs.drop o).take n).length = n := by simp; omega
  refine ⟨hl, by omega, fun _ => ⟨_, rfl, fun j p hj => ⟨[.int k p], rfl, rfl, fun i u hu => ?_⟩⟩⟩
  match i, hu with
  | 0, hu =>
    simp at hu
    subst hu
    rw [add_flat, show (Kd.int k).sz = 1 from rfl, show o + (j * 1 + 0) = o + j by omega]
    have hjn : j < n := by
      have := (List.getElem?_eq_some_iff.1 hj).1
      omega
    rw [List.getElem?_take, if_pos hjn, List.getElem?_drop] at hj
    exact hb.cell_at _ _ (by simp [icells, hj])
theorem zeros_bytes (n : Nat) : ∀ y ∈ zeros n, 0 ≤ y ∧ y < 256 := by
  intro y hy
  have := List.eq_of_mem_replicate hy
  omega
theorem good_new (n : Nat) (h1 : 1 ≤ n) (h2 : n ≤ 8192) : Good ⟨zeros (n * 32), zeros (n * 32), [], -1⟩ n :=
  ⟨h1, h2, zeros_length _, zeros_length _, zeros_bytes _, zeros_bytes _, fun p hp => absurd hp List.not_mem_nil, ⟨Int.le_refl _, show (-1 : Int) ≤ 9223372036854775807 by decide⟩⟩
set_option maxHeartbeats 2000000 in
set_option maxRecDepth 100000 in
theorem awake_any (w : World) : Calls Try.prog 11 #[] w fun e w' => e = .returned (.bool true) ∧ Below w.heap.size w w' := by
  go_enter Try.func11, Try.ntmps11
  go_wp2_with fail
  refine (new_ok 2 w (by omega) (by omega)).mono ?_
  rintro e w1 ⟨g, rfl, d1, b1⟩
  have D1 := Lib.hid d1
  have B1 := Lib.hid b1
  clear d1 b1
  go_wp2_with fail
  have hb1 : Blk (w1.alloc (.cells #[.int .u8 7] 5)) w1.heap.size 5 (icells .u8 [7]) := Blk.new _ _ _
  have hc1 := C_of_blk (o := 0) (n := 1) hb1 (by simp) (by simp)
  have B2 := Lib.hid (show Below w.heap.size w (w1.alloc (.cells #[.int .u8 7] 5)) from ((Only.of_below B1.out (fun _ => False)).alloc _).below_all)
  have D2 := Lib.hid ((IsDisk.bound D1.out).keep (((Only.refl w1 (fun _ => False))).alloc (.cells #[.int .u8 7] 5)) (fun _ _ h => h))
  have HS2 := Lib.hid (show (w1.alloc (.cells #[.int .u8 7] 5)).heap.size = w1.heap.size + 1 by simp)
  refine (full_any (some ⟨w1.heap.size, 0, none⟩) 1 [7] _ hc1 (by simp) (by simp)).mono ?_
  rintro e w3 ⟨v, rfl, r3, b3⟩
  obtain ⟨gv, cv, junk, rfl, q1, q2, q3, q4, q5, q6⟩ := R_open r3 (by rw [full_length]; omega)
  have C3 := Lib.hid (Kd.R_reads' r3).2.2
  have O3 := Lib.hid (Only.of_below b3 (fun _ => False))
  have D3 := Lib.hid (D2.out.keep O3.out (fun _ _ h => h))
  have B3 := Lib.hid ((Only.of_below B2.out (fun _ => False)).step O3.out (fun _ _ h => h))
  have HG := Lib.hid q1
  have HV := Lib.hid q6.lt
  clear hb1 hc1 r3 b3 q1 q2 q3 q4 q5 q6 D1 D2
  go_wp2_with fail
  rw [full_length]
  have hg3 := good_new 2 (by omega) (by omega)
  have c3 := C3.out
  rw [full_length] at c3
  have hw := dk_write D3.out hg3 (by omega) (Nat.le_trans B3.out.size (Nat.le_refl _)) (by simp) (by decide) 1 (by omega) gv 0 cv (full [7]) c3 HV.out (fun hk => by have := HG.out; have := HS2.out; omega)
  refine (show Calls _ _ #[_, .int .i64 1, _] _ _ from hw).mono ?_
  rintro e w4 ⟨rfl, d4, o4⟩
  have hg4 := hg3.write (m := 1) (by omega) (full_length [7]) (full_bytes [7] (by simp))
  have B4 := Lib.hid (B3.out.step o4 (fun k hk h => absurd h.2.1 (by omega)))
  have R4 := dk_read d4 hg4 (by omega) 1
  have e4 : chk ((⟨zeros (2 * 32), zeros (2 * 32), [], -1⟩ : DV).write 1 (full [7])).life 1 (2 : Nat) = 0 := by decide
  rw [e4] at R4
  simp only [if_true] at R4
  have e5 : sec ((⟨zeros (2 * 32), zeros (2 * 32), [], -1⟩ : DV).write 1 (full [7])).seen 1 = full [7] := by decide
  rw [e5] at R4
  have HR4 := Lib.hid R4
  clear hw d4 o4 R4 e4 e5 c3 C3 D3 O3 B3
  go_wp2_with fail
  refine HR4.out.mono ?_
  rintro e w5 ⟨v5, rfl, r5, b5⟩
  obtain ⟨gv5, cv5, junk5, rfl, q1, q2, q3, q4, q5, q6⟩ := R_open r5 (by rw [full_length]; omega)
  have h7 : w5.cell? ⟨gv5, 0, none⟩ = some (.int .u8 7) := q6.cell_at 0 _ rfl
  have B5 := Lib.hid (B4.out.step (Only.of_below b5 (fun _ => False)) (fun _ _ h => h))
  rw [full_length]
  clear q1 q2 q3 q4 q5 q6 r5 b5
  go_wp2
  go_ret
  exact ⟨rfl, B5.out.below_all⟩
end Go.Proofs.Ytgiidddmhnnnjaa.Dk
