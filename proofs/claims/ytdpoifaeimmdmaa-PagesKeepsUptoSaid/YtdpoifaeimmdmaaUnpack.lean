/- The contract of pages.Unpack, by hand. -/
import Derived.Test.YtdpoifaeimmdmaaGet32
namespace Go.Proofs.Ytdpoifaeimmdmaa.Hand
open Go.RowKit Go.Proofs.Ytdpoifaeimmdmaa.Mem Go.Proofs.Ytdpoifaeimmdmaa.Pure Go.Proofs.Ytdpoifaeimmdmaa.PSumPlays Go.Proofs.YtdpoifaeimmdmaaW.PrintWords
set_option linter.unusedVariables false
set_option linter.unusedSimpArgs false

def unp (b : List Int) : Int × List Int × Int :=
  if b.length ≠ 128 then (0, [], 2)
  else if ld32 b ≠ sumOf (b.drop 4) ∨ 116 < ld32 (b.drop 8) then (0, [], 5)
  else if (b.drop (12 + (ld32 (b.drop 8)).toNat)).all (· == 0) = true then (ld32 (b.drop 4), (b.drop 12).take (ld32 (b.drop 8)).toNat, 0) else (0, [], 5)

theorem unpack_len (A : Option Addr) (n c : Nat) (w : World) (hl : n ≠ 128) (hn : n ≤ 9223372036854775807) :
    Calls Try.prog 26 #[.slice A n c] w fun e w' => e = .returned (.tuple #[.int .u32 0, .slice none 0 0, .int .i64 2]) ∧ w = w' := by
  have h1 : ((n : Int) != 128) = true := by rw [bne_iff_ne]; omega
  have h2 : ((n : Int) == 128) = false := by rw [beq_eq_false_iff_ne]; omega
  clear hl
  go_enter Try.func26, Try.ntmps26
  go_wp2
  go_ret3
  exact ⟨rfl, rfl⟩
theorem drawn_ex {w w' : World} (h : Drawn0 w w') : ∃ m, w' = w.drewN m := h.out
theorem drop_bytes {xs : List Int} (hx : ∀ x ∈ xs, 0 ≤ x ∧ x < 256) (k : Nat) : ∀ x ∈ xs.drop k, 0 ≤ x ∧ x < 256 := fun x h => hx x (List.mem_of_mem_drop h)
theorem ld32_range {xs : List Int} (hx : ∀ x ∈ xs, 0 ≤ x ∧ x < 256) : 0 ≤ ld32 xs ∧ ld32 xs < 4294967296 := by
  have r : ∀ j, 0 ≤ xs.getD j 0 ∧ xs.getD j 0 < 256 := by
    intro j
    rw [List.getD_eq_getElem?_getD]
    cases h : xs[j]? with
    | none => simp
    | some x => simpa using hx x (List.mem_of_getElem? h)
  have r0 := r 0
  have r1 := r 1
  have r2 := r 2
  have r3 := r 3
  unfold ld32
  omega
/-- The cut s[k:] of a row that is read. -/
theorem C_cut {w : World} {ad : Addr} {n : Nat} {xs : List Int} (h : (Kd.int .u8).C w (some ad) n xs) (k : Nat) (h0 : 0 < k) (hk : k < n) : (Kd.int .u8).C w (some ⟨ad.block, ad.off + k, none⟩) (n - k) (xs.drop k) := by
  have hl := h.1
  have := Kd.C_drop (k := Kd.int .u8) (c := n + k + 1) (m := k) (w := w) (A := some ad) (xs := xs) (by rw [hl]; exact h) (by omega) (by omega)
  rw [if_neg (by omega)] at this
  simp only [Option.map_some, show (Kd.int .u8).sz = 1 from rfl, Nat.mul_one, List.length_drop, hl] at this
  rwa [show ad.add k = ⟨ad.block, ad.off + k, none⟩ from by unfold Addr.add; rw [if_neg (by omega)]] at this

set_option maxRecDepth 100000 in
set_option maxHeartbeats 1000000 in
theorem unpack_sum (ad : Addr) (c : Nat) (b : List Int) (w : World) (hr : (Kd.int .u8).C w (some ad) 128 b) (hc : 128 ≤ c) (hb : ∀ x ∈ b, 0 ≤ x ∧ x < 256) (hbad : ld32 b ≠ sumOf (b.drop 4) ∨ 116 < ld32 (b.drop 8)) :
    Calls Try.prog 26 #[.slice (some ad) 128 c] w fun e w' => e = .returned (.tuple #[.int .u32 0, .slice none 0 0, .int .i64 5]) ∧ ∃ m, w' = w.drewN m := by
  have HR := Lib.hid hr
  have HB := Lib.hid hb
  have hl := hr.1
  have HL := Lib.hid hl
  have r8 := ld32_range (drop_bytes hb 8)
  have r80 := r8.1
  have r81 := r8.2
  have r4 := ld32_range (drop_bytes hb 4)
  clear r8
  have c8 : ∀ W : World, Calls Try.prog 40 #[.slice (some ⟨ad.block, ad.off + 8, none⟩) 120 (c - 8)] (w.drewN 0) fun e w' => e = .returned (.int .u32 (ld32 (b.drop 8))) ∧ ∃ m, w' = w.drewN m := fun W => get32_row _ 120 _ _ w (C_cut hr 8 (by omega) (by omega)) (by omega) (drop_bytes hb 8)
  have c0 : ∀ m, Calls Try.prog 40 #[.slice (some ad) 128 c] (w.drewN m) fun e w' => e = .returned (.int .u32 (ld32 b)) ∧ ∃ k, w' = (w.drewN m).drewN k := fun m => get32_row _ 128 _ _ _ (Kd.C_drewN hr m) (by omega) hb
  have cs : ∀ m, Calls Try.prog 15 #[.slice (some ⟨ad.block, ad.off + 4, none⟩) 124 (c - 4)] (w.drewN m) fun e w' => e = .returned (.int .u32 (sumOf (b.drop 4))) ∧ ∃ k, w' = (w.drewN m).drewN k := fun m => (sum_any _ 124 _ _ _ (C_cut (Kd.C_drewN hr m) 4 (by omega) (by omega)) (by omega) (drop_bytes hb 4) (by rw [List.length_drop]; omega)).mono fun e w' ⟨h1, h2⟩ => ⟨h1, drawn_ex h2⟩
  have C8 := Lib.hid (c8 w)
  have C0 := Lib.hid c0
  have CS := Lib.hid cs
  clear hr hb hl c8 c0 cs HR
  generalize hn : ld32 (b.drop 8) = n at *
  generalize hg : ld32 b = g at *
  generalize hs : sumOf (b.drop 4) = s at *
  clear hn hg hs
  by_cases h1 : g = s
  · have h2 : 116 < n := hbad.resolve_left (fun h => h h1)
    have t1 : (g != s) = false := by rw [h1]; simp
    clear h1 hbad
    go_enter Try.func26, Try.ntmps26
    go_wp2_with fail
    refine C8.out.mono ?_
    rintro e w1 ⟨rfl, m1, hw1⟩
    have HW := Lib.hid hw1
    have C0W : Hid (∀ m, Calls Try.prog 40 #[.slice (some ad) 128 c] (w1.drewN m) fun e w' => e = .returned (.int .u32 g) ∧ ∃ k, w' = (w1.drewN m).drewN k) := Lib.hid (fun m => by rw [hw1, World.drewN_drewN]; exact C0.out _)
    have CSW : Hid (∀ m, Calls Try.prog 15 #[.slice (some ⟨ad.block, ad.off + 4, none⟩) 124 (c - 4)] (w1.drewN m) fun e w' => e = .returned (.int .u32 s) ∧ ∃ k, w' = (w1.drewN m).drewN k) := Lib.hid (fun m => by rw [hw1, World.drewN_drewN]; exact CS.out _)
    clear hw1 C0 CS
    go_wp2_with fail
    go_quiet (first | (go_at_call 40; exact Calls.quiet_of (C0W.out _)) | (go_at_call 15; exact Calls.quiet_of (CSW.out _)))
    go_wp2
    go_ret3
    exact ⟨rfl, _, by rw [HW.out, World.drewN_drewN]⟩
  · have t1 : (g != s) = true := by simpa using h1
    clear h1 hbad
    go_enter Try.func26, Try.ntmps26
    go_wp2_with fail
    refine C8.out.mono ?_
    rintro e w1 ⟨rfl, m1, hw1⟩
    have HW := Lib.hid hw1
    have C0W : Hid (∀ m, Calls Try.prog 40 #[.slice (some ad) 128 c] (w1.drewN m) fun e w' => e = .returned (.int .u32 g) ∧ ∃ k, w' = (w1.drewN m).drewN k) := Lib.hid (fun m => by rw [hw1, World.drewN_drewN]; exact C0.out _)
    have CSW : Hid (∀ m, Calls Try.prog 15 #[.slice (some ⟨ad.block, ad.off + 4, none⟩) 124 (c - 4)] (w1.drewN m) fun e w' => e = .returned (.int .u32 s) ∧ ∃ k, w' = (w1.drewN m).drewN k) := Lib.hid (fun m => by rw [hw1, World.drewN_drewN]; exact CS.out _)
    clear hw1 C0 CS
    go_wp2_with fail
    go_quiet (first | (go_at_call 40; exact Calls.quiet_of (C0W.out _)) | (go_at_call 15; exact Calls.quiet_of (CSW.out _)))
    go_wp2
    go_ret3
    exact ⟨rfl, _, by rw [HW.out, World.drewN_drewN]⟩
theorem zeros_not {T : List Int} (h : ¬ T.all (· == 0) = true) (k : Nat) (hz : ∀ j, j < k → T.getD j 0 = 0) : k < T.length := by
  rcases Nat.lt_or_ge k T.length with h1 | h1
  · exact h1
  · exact (h (List.all_eq_true.2 (fun x hx => by
      obtain ⟨j, hj, rfl⟩ := List.getElem_of_mem hx
      have := hz j (by omega)
      simpa [hj] using this))).elim
theorem zeros_at {T : List Int} (h : T.all (· == 0) = true) (k : Nat) (hk : k < T.length) : T.getD k 0 = 0 := by
  have := List.all_eq_true.1 h T[k] (List.getElem_mem hk)
  simpa [hk] using this
theorem getD_drop (b : List Int) (o k : Nat) : (b.drop o).getD k 0 = b.getD (o + k) 0 := by
  rw [List.getD_eq_getElem?_getD, List.getElem?_drop, List.getD_eq_getElem?_getD]

set_option maxRecDepth 100000 in
set_option maxHeartbeats 1000000 in
theorem unpack_dirt (ad : Addr) (c : Nat) (b : List Int) (w : World) (hr : (Kd.int .u8).C w (some ad) 128 b) (hc : 128 ≤ c) (hb : ∀ x ∈ b, 0 ≤ x ∧ x < 256) (hsum : ld32 b = sumOf (b.drop 4)) (hn : ld32 (b.drop 8) ≤ 116) (hz : ¬ (b.drop (12 + (ld32 (b.drop 8)).toNat)).all (· == 0) = true) :
    Calls Try.prog 26 #[.slice (some ad) 128 c] w fun e w' => e = .returned (.tuple #[.int .u32 0, .slice none 0 0, .int .i64 5]) ∧ ∃ m, w' = w.drewN m := by
  have HR := Lib.hid hr
  have HB := Lib.hid hb
  have hl := hr.1
  have HL := Lib.hid hl
  have r8 := ld32_range (drop_bytes hb 8)
  have r80 := r8.1
  clear r8
  have c8 : ∀ W : World, Calls Try.prog 40 #[.slice (some ⟨ad.block, ad.off + 8, none⟩) 120 (c - 8)] (w.drewN 0) fun e w' => e = .returned (.int .u32 (ld32 (b.drop 8))) ∧ ∃ m, w' = w.drewN m := fun W => get32_row _ 120 _ _ w (C_cut hr 8 (by omega) (by omega)) (by omega) (drop_bytes hb 8)
  have c0 : ∀ m, Calls Try.prog 40 #[.slice (some ad) 128 c] (w.drewN m) fun e w' => e = .returned (.int .u32 (ld32 b)) ∧ ∃ k, w' = (w.drewN m).drewN k := fun m => get32_row _ 128 _ _ _ (Kd.C_drewN hr m) (by omega) hb
  have cs : ∀ m, Calls Try.prog 15 #[.slice (some ⟨ad.block, ad.off + 4, none⟩) 124 (c - 4)] (w.drewN m) fun e w' => e = .returned (.int .u32 (sumOf (b.drop 4))) ∧ ∃ k, w' = (w.drewN m).drewN k := fun m => (sum_any _ 124 _ _ _ (C_cut (Kd.C_drewN hr m) 4 (by omega) (by omega)) (by omega) (drop_bytes hb 4) (by rw [List.length_drop]; omega)).mono fun e w' ⟨h1, h2⟩ => ⟨h1, drawn_ex h2⟩
  have C8 := Lib.hid (c8 w)
  have C0 := Lib.hid c0
  have CS := Lib.hid cs
  have t1 : (ld32 b != sumOf (b.drop 4)) = false := by rw [hsum]; simp
  obtain ⟨N, hN⟩ : ∃ N : Nat, ld32 (b.drop 8) = N := ⟨(ld32 (b.drop 8)).toNat, by omega⟩
  rw [hN] at hz hn C8
  rw [Int.toNat_natCast] at hz
  have hN115 : N ≤ 115 := by
    have := zeros_not hz 0 (fun j hj => absurd hj (by omega))
    rw [List.length_drop, hl] at this
    omega
  have hN115' : (N : Int) ≤ 115 := by omega
  have hcN : 12 + N < c := by omega
  have hcell := (C_cells hr (by omega))
  obtain ⟨ad', had, hcell⟩ := hcell
  obtain rfl : ad = ad' := by injection had
  have hcell' : ∀ j, j < 128 → w.cell? (ad.add j) = some (.int .u8 (b.getD j 0)) := fun j hj => hcell j _ (icells_getD _ _ _ (by omega))
  have HC := Lib.hid hcell'
  have HZ := Lib.hid hz
  clear hr hb hl c8 c0 cs HR hsum hz hN r80 had hcell hcell'
  generalize hg : ld32 b = g at *
  generalize hs : sumOf (b.drop 4) = s at *
  clear hg hs
  go_enter Try.func26, Try.ntmps26
  go_wp2_with fail
  refine C8.out.mono ?_
  rintro e w1 ⟨rfl, m1, hw1⟩
  have HW := Lib.hid hw1
  have C0W : Hid (∀ m, Calls Try.prog 40 #[.slice (some ad) 128 c] (w1.drewN m) fun e w' => e = .returned (.int .u32 g) ∧ ∃ k, w' = (w1.drewN m).drewN k) := Lib.hid (fun m => by rw [hw1, World.drewN_drewN]; exact C0.out _)
  have CSW : Hid (∀ m, Calls Try.prog 15 #[.slice (some ⟨ad.block, ad.off + 4, none⟩) 124 (c - 4)] (w1.drewN m) fun e w' => e = .returned (.int .u32 s) ∧ ∃ k, w' = (w1.drewN m).drewN k) := Lib.hid (fun m => by rw [hw1, World.drewN_drewN]; exact CS.out _)
  clear hw1 C0 CS
  go_wp2_with fail
  go_quiet (first | (go_at_call 40; exact Calls.quiet_of (C0W.out _)) | (go_at_call 15; exact Calls.quiet_of (CSW.out _)))
  go_wp2
  go_loopg [29] (116 - N) (fun m i wr => ∃ k : Nat, i = .int .i64 k ∧ k ≤ 116 - N ∧ Aside1 (k + m = 116 - N ∧ (∃ q, wr = w.drewN q) ∧ ∀ j, j < k → (b.drop (12 + N)).getD j 0 = 0))
  case atStart => exact ⟨0, rfl, Nat.zero_le _, ⟨by omega, ⟨_, by rw [HW.out, World.drewN_drewN]⟩, fun j hj => absurd hj (by omega)⟩⟩
  case round =>
    obtain ⟨k, rfl, hk116, hA⟩ := hrel
    obtain ⟨hm, ⟨q, hq⟩, hzs⟩ := hA.out
    have hk : k < 116 - N := by
      have := zeros_not HZ.out k hzs
      rw [List.length_drop, HL.out] at this
      omega
    have hx := HC.out (12 + N + k) (by omega)
    rw [← add_of_add] at hx
    have hxq : wr.cell? ((ad.add (12 + N)).add k) = some (.int .u8 (b.getD (12 + N + k) 0)) := by rw [hq]; exact hx
    have hbr : 0 ≤ b.getD (12 + N + k) 0 ∧ b.getD (12 + N + k) 0 < 256 := by
      have e : b.getD (12 + N + k) 0 = b[12 + N + k]'(by rw [HL.out]; omega) := by simp [HL.out, show 12 + N + k < 128 by omega]
      rw [e]; exact HB.out _ (List.getElem_mem _)
    have hgd := getD_drop b (12 + N) k
    have GD := Lib.hid hgd
    have Q := Lib.hid hq
    have ZS := Lib.hid hzs
    clear hgd hq hzs hA hx
    generalize hx : b.getD (12 + N + k) 0 = x at *
    have HX := Lib.hid hx
    clear hx
    have hk1 : (k : Int) < ((128 - (12 + N) : Nat) : Int) := by omega
    by_cases hx0 : x = 0
    · subst hx0
      go_wp2
      go_roundg (gk - 1)
      case measure => omega
      case rel => exact ⟨k + 1, by go_num, by omega, ⟨by omega, ⟨q, Q.out⟩, fun j hj => by
        by_cases e : j = k
        · subst e; exact GD.out
        · exact ZS.out j (by omega)⟩⟩
    · have hb1 : (x != 0) = true := by simpa using hx0
      clear hx0
      go_wp2
      go_ret3
      exact ⟨rfl, q, Q.out⟩
/-- The cells behind 12, as a row to be copied. -/
theorem mid_cells {w : World} {ad : Addr} {b : List Int} (h : ∀ (j : Nat), j < 128 → w.cell? (ad.add j) = some (.int .u8 (b.getD j 0))) (hl : b.length = 128) (N : Nat) (hN : N ≤ 116) (j : Nat) (v : Value) (hv : (icells .u8 ((b.drop 12).take N))[j]? = some v) : w.cell? ((ad.add 12).add j) = some v := by
  have hj : j < N := by
    have := (List.getElem?_eq_some_iff.1 hv).1
    rw [icells_length, List.length_take] at this
    omega
  rw [add_of_add, h _ (by omega), ← hv]
  simp only [icells, List.getElem?_map, List.getElem?_take, if_pos hj, List.getElem?_drop]
  simp [hl, show 12 + j < 128 by omega]
theorem mid_length {b : List Int} (hl : b.length = 128) (N : Nat) (hN : N ≤ 116) : ((b.drop 12).take N).length = N := by simp; omega
theorem makeN (n : Nat) (hn : n ≤ 65536) (w : World) : (Instr.makeSlice 22 (.int .u32 (n : Int)) (.int .u32 (n : Int))).run Try.prog w = .ok (.slice (some ⟨w.heap.size, 0, none⟩) n n) (w.alloc (.cells (icells .u8 (zeros n)).toArray 5)) := by
  have := run_make_row' (P := Try.prog) 22 5 (.int .u8 0) 1 Try.underlying22 info5 rfl .u32 .u32 n (by omega) (by omega) w
  rw [made_zeros] at this
  exact this

set_option maxRecDepth 100000 in
set_option maxHeartbeats 2000000 in
theorem unpack_good (ad : Addr) (c : Nat) (b : List Int) (w : World) (hr : (Kd.int .u8).C w (some ad) 128 b) (hc : 128 ≤ c) (hb : ∀ x ∈ b, 0 ≤ x ∧ x < 256) (hsum : ld32 b = sumOf (b.drop 4)) (hn : ld32 (b.drop 8) ≤ 116) (hz : (b.drop (12 + (ld32 (b.drop 8)).toNat)).all (· == 0) = true) (hcN : 12 + (ld32 (b.drop 8)).toNat < c) :
    Calls Try.prog 26 #[.slice (some ad) 128 c] w fun e w' => ∃ g, e = .returned (.tuple #[.int .u32 (ld32 (b.drop 4)), .slice (some ⟨g, 0, none⟩) (ld32 (b.drop 8)).toNat (ld32 (b.drop 8)).toNat, .int .i64 0]) ∧ w.heap.size ≤ g ∧ Blk w' g 5 (icells .u8 ((b.drop 12).take (ld32 (b.drop 8)).toNat)) ∧ Only w w' (fun _ => False) := by
  have HR := Lib.hid hr
  have HB := Lib.hid hb
  have hl := hr.1
  have HL := Lib.hid hl
  have r8 := ld32_range (drop_bytes hb 8)
  have r80 := r8.1
  clear r8
  have c8 : ∀ W : World, Calls Try.prog 40 #[.slice (some ⟨ad.block, ad.off + 8, none⟩) 120 (c - 8)] (w.drewN 0) fun e w' => e = .returned (.int .u32 (ld32 (b.drop 8))) ∧ ∃ m, w' = w.drewN m := fun W => get32_row _ 120 _ _ w (C_cut hr 8 (by omega) (by omega)) (by omega) (drop_bytes hb 8)
  have c0 : ∀ m, Calls Try.prog 40 #[.slice (some ad) 128 c] (w.drewN m) fun e w' => e = .returned (.int .u32 (ld32 b)) ∧ ∃ k, w' = (w.drewN m).drewN k := fun m => get32_row _ 128 _ _ _ (Kd.C_drewN hr m) (by omega) hb
  have cs : ∀ m, Calls Try.prog 15 #[.slice (some ⟨ad.block, ad.off + 4, none⟩) 124 (c - 4)] (w.drewN m) fun e w' => e = .returned (.int .u32 (sumOf (b.drop 4))) ∧ ∃ k, w' = (w.drewN m).drewN k := fun m => (sum_any _ 124 _ _ _ (C_cut (Kd.C_drewN hr m) 4 (by omega) (by omega)) (by omega) (drop_bytes hb 4) (by rw [List.length_drop]; omega)).mono fun e w' ⟨h1, h2⟩ => ⟨h1, drawn_ex h2⟩
  have C8 := Lib.hid (c8 w)
  have C0 := Lib.hid c0
  have CS := Lib.hid cs
  have t1 : (ld32 b != sumOf (b.drop 4)) = false := by rw [hsum]; simp
  obtain ⟨N, hN⟩ : ∃ N : Nat, ld32 (b.drop 8) = N := ⟨(ld32 (b.drop 8)).toNat, by omega⟩
  rw [hN] at hz hn C8 hcN ⊢
  rw [Int.toNat_natCast] at hz hcN ⊢
  obtain ⟨ad', had, hcell⟩ := C_cells hr (by omega)
  obtain rfl : ad = ad' := by injection had
  have hcell' : ∀ j, j < 128 → w.cell? (ad.add j) = some (.int .u8 (b.getD j 0)) := fun j hj => hcell j _ (icells_getD _ _ _ (by omega))
  have HC := Lib.hid hcell'
  have HZ := Lib.hid hz
  have HR2 := Lib.hid (C_cut hr 4 (by omega) (by omega))
  have HB4 := Lib.hid (drop_bytes hb 4)
  have hNn : N ≤ 116 := by omega
  clear hr hb hl c8 c0 cs HR hsum hz hN r80 had hcell hcell'
  generalize hg : ld32 b = g at *
  generalize hs : sumOf (b.drop 4) = s at *
  clear hg hs
  have hmk := makeN N (by omega)
  have hmk0 : ∀ w : World, (Instr.makeSlice 22 (.int .u32 0) (.int .u32 0)).run Try.prog w = .ok (.slice (some ⟨w.heap.size, 0, none⟩) 0 0) (w.alloc (.cells (icells .u8 (zeros 0)).toArray 5)) := makeN 0 (by omega)
  go_enter Try.func26, Try.ntmps26
  go_wp2_with fail
  refine C8.out.mono ?_
  rintro e w1 ⟨rfl, m1, hw1⟩
  have HW := Lib.hid hw1
  have C0W : Hid (∀ m, Calls Try.prog 40 #[.slice (some ad) 128 c] (w1.drewN m) fun e w' => e = .returned (.int .u32 g) ∧ ∃ k, w' = (w1.drewN m).drewN k) := Lib.hid (fun m => by rw [hw1, World.drewN_drewN]; exact C0.out _)
  have CSW : Hid (∀ m, Calls Try.prog 15 #[.slice (some ⟨ad.block, ad.off + 4, none⟩) 124 (c - 4)] (w1.drewN m) fun e w' => e = .returned (.int .u32 s) ∧ ∃ k, w' = (w1.drewN m).drewN k) := Lib.hid (fun m => by rw [hw1, World.drewN_drewN]; exact CS.out _)
  clear hw1 C0 CS
  go_wp2_with fail
  go_quiet (first | (go_at_call 40; exact Calls.quiet_of (C0W.out _)) | (go_at_call 15; exact Calls.quiet_of (CSW.out _)))
  clear C0W CSW
  go_wp2
  go_loopg [29] (116 - N) (fun m i wr => ∃ k : Nat, i = .int .i64 k ∧ k ≤ 116 - N ∧ Aside1 (k + m = 116 - N ∧ (∃ q, wr = w.drewN q)))
  case atStart => exact ⟨0, rfl, Nat.zero_le _, ⟨by omega, ⟨_, by rw [HW.out, World.drewN_drewN]⟩⟩⟩
  case round =>
    obtain ⟨k, rfl, hk116, hA⟩ := hrel
    obtain ⟨hm, ⟨q, hq⟩⟩ := hA.out
    by_cases hk : k < 116 - N
    · have hx := HC.out (12 + N + k) (by omega)
      have hv := zeros_at HZ.out k (by rw [List.length_drop, HL.out]; omega)
      rw [getD_drop] at hv
      rw [← add_of_add, hv] at hx
      have hxq : wr.cell? ((ad.add (12 + N)).add k) = some (.int .u8 0) := by rw [hq]; exact hx
      have Q := Lib.hid hq
      clear hq hA hx hv
      have hk1 : (k : Int) < ((128 - (12 + N) : Nat) : Int) := by omega
      clear hmk hmk0
      go_wp2
      go_roundg (gk - 1)
      case measure => omega
      case rel => exact ⟨k + 1, by go_num, by omega, ⟨by omega, ⟨q, Q.out⟩⟩⟩
    · obtain rfl : k = 116 - N := by omega
      have Q := Lib.hid hq
      clear hq hA hm
      have o1 : Only w (wr.alloc (.cells (icells .u8 (zeros N)).toArray 5)) (fun _ => False) := by rw [Q.out]; exact ((Only.refl _ _).drewN _).alloc _
      have b1 : Blk (wr.alloc (.cells (icells .u8 (zeros N)).toArray 5)) wr.heap.size 5 (icells .u8 (zeros N)) := Blk.new _ _ _
      have hsz : w.heap.size = wr.heap.size := by rw [Q.out]; rfl
      have O1 := Lib.hid o1
      have B1 := Lib.hid b1
      have HSZ := Lib.hid hsz
      have B1r : Hid ((wr.alloc (.cells (icells .u8 (zeros N)).toArray 5)).heap[wr.heap.size]? = some (.cells (icells .u8 (zeros N)).toArray 5 (0, 0))) := b1
      clear o1 b1 hsz
      have hge : ¬ ((116 - N : Nat) : Int) < ((128 - (12 + N) : Nat) : Int) := by omega
      by_cases hN0 : N = 0
      · subst hN0
        go_wp2_with ((with_reducible refine gate_dst (N := 45) rfl ?_); refine wpList_copy_nothing rfl (.tmp 38) (.tmp 44) 22 22 rfl 5 Try.underlying22 (by kernel_rfl) _ _ 0 0 0 _ rfl rfl rfl ?_)
        refine (get32_row _ 124 _ _ _ (Kd.C_below HR2.out O1.out.below_all) (by omega) HB4.out).mono ?_
        rintro e w4 ⟨rfl, m4, hw4⟩
        have O4 := Lib.hid (show Only w w4 (fun _ => False) by rw [hw4]; exact O1.out.drewN _)
        have B4 := Lib.hid (show Blk w4 wr.heap.size 5 (icells .u8 ((b.drop 12).take 0)) by rw [hw4]; exact B1.out)
        clear hw4 O1 B1 B1r
        go_wp2
        go_ret3
        exact ⟨_, rfl, by rw [HSZ.out]; exact Nat.le_refl _, B4.out, O4.out⟩
      · have hN0' : ¬ (N : Int) = 0 := by omega
        go_wp2_with (refine wpList_copy_splice (o := ⟨some 45, _, _, _, _, _⟩) rfl (.tmp 38) (.tmp 44) 22 22 rfl 5 Try.underlying22 (by kernel_rfl) (some ⟨wr.heap.size, 0, none⟩) _ N N (12 + N - 12) _ rfl rfl wr.heap.size 0 _ 5 B1r.out (icells .u8 ((b.drop 12).take N)) ?c1 ?c2 ?c3 ?c4 w.heap.size w ?c5 ?c6 ?_)
        case c1 => first | (rw [icells_length, mid_length HL.out _ (by omega)]; done) | (rw [icells_length, mid_length HL.out _ (by omega), Nat.add_sub_cancel_left]; exact (Nat.min_self _).symm)
        case c2 =>
          intro hp
          have hsrc : ∀ j v, (icells .u8 ((b.drop 12).take N))[j]? = some v → (wr.alloc (.cells (icells .u8 (zeros N)).toArray 5)).cell? ((ad.add 12).add j) = some v := fun j v hv => pw_cell_below O1.out.below_all (mid_cells HC.out HL.out N hNn j v hv)
          intro j v hv
          have h5 := hsrc j v hv
          rw [add_of_add, show ad.add (12 + j) = ⟨ad.block, ad.off + 12 + j, none⟩ from by unfold Addr.add; rw [if_neg (by omega), Nat.add_assoc]] at h5
          exact h5
        case c3 => rw [icells_length, icells_length, mid_length HL.out _ (by omega), zeros_length]; omega
        case c4 => exact icells_one _ _
        case c5 => exact O1.out.below_all
        case c6 => rw [HSZ.out]; exact Nat.le_refl _
        intro w3 b3 o3
        have B3 : Hid (Blk w3 wr.heap.size 5 (icells .u8 ((b.drop 12).take N))) := by
          have h3 := b3.out
          rw [icells_splice] at h3
          have e : splice (zeros N) 0 ((b.drop 12).take N) = (b.drop 12).take N := by
            have e1 : (zeros N).drop (0 + ((b.drop 12).take N).length) = [] := List.drop_of_length_le (by rw [mid_length HL.out _ (by omega), zeros_length]; omega)
            unfold splice
            rw [e1, List.take_zero, List.nil_append, List.append_nil]
          rw [e] at h3
          exact Lib.hid h3
        have O3 := Lib.hid (Only.of_below o3 (fun _ => False))
        clear b3 o3 B1 B1r O1
        go_wp2_with fail
        refine (get32_row _ 124 _ _ _ (Kd.C_below HR2.out O3.out.below_all) (by omega) HB4.out).mono ?_
        rintro e w4 ⟨rfl, m4, hw4⟩
        have O4 := Lib.hid (show Only w w4 (fun _ => False) by rw [hw4]; exact O3.out.drewN _)
        have B4 := Lib.hid (show Blk w4 wr.heap.size 5 (icells .u8 ((b.drop 12).take N)) by rw [hw4]; exact B3.out)
        clear hw4 O3 B3
        go_wp2
        go_ret3
        exact ⟨_, rfl, by rw [HSZ.out]; exact Nat.le_refl _, B4.out, O4.out⟩
end Go.Proofs.Ytdpoifaeimmdmaa.Hand
