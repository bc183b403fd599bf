/- Seat E: own, at, SameTexts, walked. -/
import Derived.Test.YtlphpmdmlcphbaaOr14
namespace Go.Proofs.Ytlphpmdmlcphbaa.Or
open Go Go.RowKit Go.Proofs.Ytlphpmdmlcphbaa.Mem Go.Proofs.YtlphpmdmlcphbaaW.PrintWords Go.Maps Go.Proofs.Ytlphpmdmlcphbaa.Om
set_option linter.unusedVariables false
set_option linter.unusedSimpArgs false
set_option maxRecDepth 100000
set_option maxHeartbeats 400000
theorem empty_own (w : World) (e : TypeId) (base : Nat) (hb : base ≤ w.heap.size) : (w.alloc (.cells #[] e)).ownsRow base e 1 (.slice (some ⟨w.heap.size, 0, none⟩) 0 0) 0 [] :=
  ⟨rfl, .inr ⟨w.heap.size, 0, #[], rfl, hb, heap_alloc_new _ _, Nat.le_refl _, by unfold maxLen; omega, rfl, rfl⟩⟩
theorem own_c (A : Option Addr) (c : Nat) (l : List ByteArray) (w : World) (hC : Kd.string.C w A l.length l) (hl : l.length ≤ 16777216) :
    Calls Try.prog 10 #[.slice A l.length c] w fun e w' => ∃ v, e = .returned v ∧ OwnS w' w.heap.size v l ∧ Below w.heap.size w w' := by
  have HB := Lib.hid (((Below.refl w.heap.size w).alloc (Nat.le_refl _) (.cells #[] 9)))
  have HC := Lib.hid (Kd.C_below hC HB.out)
  have HL := Lib.hid hl
  clear hC hl
  go_enter Try.func10, Try.ntmps10
  go_wp2_with (first
    | ((with_reducible refine gate_builtin (b := .append) (xs := #[.tmp 3, .tmp 4]) rfl ?_); at_builtin; go_loud (refine Kd.R_append_rows Kd.string (w0 := w) (W := w.alloc (.cells #[] 9)) w.heap.size rfl (.tmp 3) (.tmp 4) 23 9 (.string ByteArray.empty) 16 rfl (by kernel_rfl) info9m rfl (by decide) (by decide) (.slice (some ⟨w.heap.size, 0, none⟩) 0 0) [] l A l.length c (fun _ => True) (fun _ => False) rfl rfl (Kd.R_of_own (empty_own w 9 w.heap.size (Nat.le_refl _)) (fun _ _ => trivial)) HC.out (fun _ _ h => h) (fun _ h => h.elim) (fun _ _ => trivial) HB.out HB.out.size (by have := HL.out; simp; omega) ?_); intro v4 w4 r4 b4 g4 at4
       obtain ⟨A4, c4, rfl⟩ := Kd.R_slice r4
       have O4 := Lib.hid (show OwnS w4 w.heap.size (.slice A4 l.length c4) l from Kd.own_of_R r4)
       have B4 := Lib.hid b4
       clear r4 b4 g4 at4)
    | fail)
  go_ret
  exact ⟨_, rfl, O4.out, B4.out⟩
/-- The place of a text; -1: there is none. -/
def atV (l : List ByteArray) (s : ByteArray) : Int := match l.findIdx? (fun x => decide (x = s)) with | some i => (i : Int) | none => -1
theorem atV_some {l : List ByteArray} {s : ByteArray} (i : Nat) (hi : i < l.length) (h : l[i] = s) (h0 : ∀ x ∈ l.take i, x ≠ s) : atV l s = i := by
  unfold atV
  have : l.findIdx? (fun x => decide (x = s)) = some i := by
    rw [List.findIdx?_eq_some_iff_getElem]
    refine ⟨hi, by simp [h], fun j hj => ?_⟩
    have := h0 l[j] (List.mem_take_iff_getElem.2 ⟨j, by omega, rfl⟩)
    simpa using this
  rw [this]
theorem atV_none {l : List ByteArray} {s : ByteArray} (h : ∀ x ∈ l, x ≠ s) : atV l s = -1 := by
  unfold atV
  have : l.findIdx? (fun x => decide (x = s)) = none := by
    rw [List.findIdx?_eq_none_iff]
    intro x hx
    simpa using h x hx
  rw [this]
theorem at_c (A : Option Addr) (c : Nat) (l : List ByteArray) (s : ByteArray) (w : World) (hC : Kd.string.C w A l.length l) (hl : l.length ≤ 16777216) :
    Calls Try.prog 11 #[.slice A l.length c, .string s] w fun e w' => e = .returned (.int .i64 (atV l s)) ∧ w' = w := by
  have HC := Lib.hid hC
  have hli : (l.length : Int) ≤ 16777216 := by omega
  clear hC
  go_enter Try.func11, Try.ntmps11
  go_wp2_with fail
  go_loopg [5] l.length (fun m iv wz => ∃ (k : Nat), iv = .int .i64 k ∧ wz = w ∧ Aside1 (k + m = l.length ∧ ∀ x ∈ l.take k, x ≠ s))
  case atStart => exact ⟨0, rfl, rfl, ⟨by omega, by simp⟩⟩
  case round =>
    obtain ⟨k, rfl, hwz, ⟨hk, hn⟩⟩ := hrel
    rw [hwz]
    clear hwz
    have HK := Lib.hid hk
    have HN := Lib.hid hn
    clear hk hn
    by_cases hkl : k < l.length
    · have hki : (k : Int) < (l.length : Int) := by omega
      obtain ⟨ad, hA, e1⟩ := name_at HC.out rfl k hkl
      subst hA
      obtain ⟨x, hx⟩ : ∃ x, l[k] = x := ⟨_, rfl⟩
      rw [hx] at e1
      have HX := Lib.hid hx
      clear hx
      by_cases hxs : x = s
      · have hxe := tl_true hxs
        have hat : Hid (atV l s = k) := Lib.hid (atV_some k hkl (HX.out.trans hxs) HN.out)
        have HXS := Lib.hid hxs
        clear hxs
        go_wp2_with fail
        go_ret
        exact ⟨by rw [hat.out]; rfl, rfl⟩
      · have hxe := tl_false hxs
        have hN2 : Hid (∀ y ∈ l.take (k + 1), y ≠ s) := Lib.hid (fun y hy => by
          rw [List.take_succ_eq_append_getElem hkl, HX.out] at hy
          rcases List.mem_append.1 hy with h | h
          · exact HN.out y h
          · rw [List.mem_singleton.1 h]; exact hxs)
        clear hxs
        go_wp2_with fail
        go_roundg (gk - 1)
        case measure => have := HK.out; omega
        case rel => exact ⟨k + 1, (by simp), rfl, ⟨by have := HK.out; omega, hN2.out⟩⟩
    · have hki : ¬ (k : Int) < (l.length : Int) := by omega
      have hat : Hid (atV l s = -1) := Lib.hid (atV_none (fun x hx => HN.out x (by rw [List.take_of_length_le (by omega)]; exact hx)))
      go_wp2_with fail
      go_ret
      exact ⟨by rw [hat.out]; rfl, rfl⟩
theorem same_c (A B : Option Addr) (c d : Nat) (l m : List ByteArray) (w : World) (hC : Kd.string.C w A l.length l) (hD : Kd.string.C w B m.length m) (hl : l.length ≤ 16777216) :
    Calls Try.prog 12 #[.slice A l.length c, .slice B m.length d] w fun e w' => e = .returned (.bool (decide (l = m))) ∧ Below w.heap.size w w' := by
  have HC := Lib.hid hC
  have HD := Lib.hid hD
  have hli : (l.length : Int) ≤ 16777216 := by omega
  clear hC hD
  go_enter Try.func12, Try.ntmps12
  by_cases hlm : l.length = m.length
  · have hlmi : (m.length : Int) = (l.length : Int) := by omega
    rw [← hlm]
    have HLM := Lib.hid hlm
    clear hlm hlmi
    go_wp2_with fail
    go_loopg [5] l.length (fun mm iv wz => ∃ (k : Nat), iv = .int .i64 k ∧ Aside1 (k + mm = l.length ∧ l.take k = m.take k) ∧ Aside1 (Below w.heap.size w wz))
    case atStart => exact ⟨0, rfl, ⟨by omega, by simp⟩, ⟨Below.refl _ _⟩⟩
    case round =>
      obtain ⟨k, rfl, ⟨hk, hn⟩, ⟨hB⟩⟩ := hrel
      have HK := Lib.hid hk
      have HN := Lib.hid hn
      have B := Lib.hid hB
      clear hk hn hB
      by_cases hkl : k < l.length
      · have hki : (k : Int) < (l.length : Int) := by omega
        have hkm : k < m.length := by have := HLM.out; omega
        obtain ⟨ad, hA, e1⟩ := name_at (Kd.C_below HC.out B.out) rfl k hkl
        obtain ⟨bd, hB', e2⟩ := name_at (Kd.C_below HD.out B.out) rfl k hkm
        subst hA
        subst hB'
        obtain ⟨x, hx⟩ : ∃ x, l[k] = x := ⟨_, rfl⟩
        obtain ⟨y, hy⟩ : ∃ y, m[k] = y := ⟨_, rfl⟩
        rw [hx] at e1
        rw [hy] at e2
        have HX := Lib.hid hx
        have HY := Lib.hid hy
        clear hx hy
        by_cases hxy : x = y
        · have hxe := tl_true hxy
          have hN2 : Hid (l.take (k + 1) = m.take (k + 1)) := Lib.hid (by rw [List.take_succ_eq_append_getElem hkl, List.take_succ_eq_append_getElem hkm, HN.out, HX.out, HY.out, hxy])
          clear hxy
          go_wp2_with fail
          go_quiet (fail)
          have B2 := Lib.hid (show Below w.heap.size w (wr.drewN nq) from (Only.of_below B.out (fun _ => False)).drewN nq |>.below_all)
          generalize wr.drewN nq = w1 at *
          go_wp2_with fail
          go_roundg (gk - 1)
          case measure => have := HK.out; omega
          case rel => exact ⟨k + 1, (by simp), ⟨by have := HK.out; omega, hN2.out⟩, ⟨B2.out⟩⟩
        · have hxe := tl_false hxy
          have hat : Hid (decide (l = m) = false) := Lib.hid (decide_eq_false (fun e => hxy (by rw [← HX.out, ← HY.out]; subst e; rfl)))
          clear hxy
          go_wp2_with fail
          go_quiet (fail)
          have B2 := Lib.hid (show Below w.heap.size w (wr.drewN nq) from (Only.of_below B.out (fun _ => False)).drewN nq |>.below_all)
          generalize wr.drewN nq = w1 at *
          go_wp2_with fail
          go_ret
          exact ⟨by rw [hat.out]; rfl, B2.out⟩
      · have hki : ¬ (k : Int) < (l.length : Int) := by omega
        have hat : Hid (decide (l = m) = true) := Lib.hid (decide_eq_true (by have h := HN.out; rwa [List.take_of_length_le (by omega), List.take_of_length_le (by have := HLM.out; omega)] at h))
        go_wp2_with fail
        go_ret
        exact ⟨by rw [hat.out]; rfl, B.out⟩
  · have hlmi : ¬ (l.length : Int) = (m.length : Int) := by omega
    have hat : Hid (decide (l = m) = false) := Lib.hid (decide_eq_false (fun e => hlm (by rw [e])))
    go_wp2_with fail
    go_ret
    exact ⟨by rw [hat.out]; rfl, Below.refl _ _⟩
end Go.Proofs.Ytlphpmdmlcphbaa.Or
