/- Seat E: the reference's has, find, least, ready, walked. -/
import Derived.Test.YtlphpmdmlcphbaaOr22
namespace Go.Proofs.Ytlphpmdmlcphbaa.Or
open Go Go.RowKit Go.Proofs.Ytlphpmdmlcphbaa.Mem Go.Proofs.YtlphpmdmlcphbaaW.PrintWords Go.Maps Go.Proofs.Ytlphpmdmlcphbaa.Om
set_option linter.unusedVariables false
set_option linter.unusedSimpArgs false
set_option maxRecDepth 100000
set_option maxHeartbeats 1000000
theorem has_c (A : Option Addr) (c : Nat) (l : List ByteArray) (s : ByteArray) (w : World) (hC : Kd.string.C w A l.length l) (hl : l.length ≤ 16777216) :
    Calls Try.prog 28 #[.slice A l.length c, .string s] w fun e w' => e = .returned (.bool (decide (s ∈ l))) ∧ w' = w := by
  have HC := Lib.hid hC
  have hli : (l.length : Int) ≤ 16777216 := by omega
  clear hC
  go_enter Try.func28, Try.ntmps28
  go_wp2_with fail
  go_loopg [5] l.length (fun m iv wz => ∃ (k : Nat), iv = .int .i64 k ∧ wz = w ∧ Aside1 (k + m = l.length ∧ s ∉ l.take k))
  case atStart => exact ⟨0, rfl, rfl, ⟨by omega, by simp⟩⟩
  case round =>
    obtain ⟨k, rfl, hwz, ⟨hk, hn⟩⟩ := hrel
    rw [hwz]
    clear hwz
    have HK := Lib.hid hk
    have HN := Lib.hid hn
    clear hk hn
    by_cases hkl : k < l.length
    · have hki : (k : Int) < (l.length : Int) := by omega
      obtain ⟨ad, hA, e1⟩ := name_at HC.out rfl k hkl
      subst hA
      obtain ⟨x, hx⟩ : ∃ x, l[k] = x := ⟨_, rfl⟩
      rw [hx] at e1
      have HX := Lib.hid hx
      clear hx
      by_cases hxs : x = s
      · have hxe := tl_true hxs
        have hat : Hid (decide (s ∈ l) = true) := Lib.hid (decide_eq_true (by rw [← hxs, ← HX.out]; exact List.getElem_mem hkl))
        clear hxs
        go_wp2_with fail
        go_ret
        exact ⟨by rw [hat.out]; rfl, rfl⟩
      · have hxe := tl_false hxs
        have hN2 : Hid (s ∉ l.take (k + 1)) := Lib.hid (fun hy => by
          rw [List.take_succ_eq_append_getElem hkl, HX.out] at hy
          rcases List.mem_append.1 hy with h | h
          · exact HN.out h
          · exact hxs (List.mem_singleton.1 h).symm)
        clear hxs
        go_wp2_with fail
        go_roundg (gk - 1)
        case measure => have := HK.out; omega
        case rel => exact ⟨k + 1, (by simp), rfl, ⟨by have := HK.out; omega, hN2.out⟩⟩
    · have hki : ¬ (k : Int) < (l.length : Int) := by omega
      have hat : Hid (decide (s ∈ l) = false) := Lib.hid (decide_eq_false (fun hx => HN.out (by rw [List.take_of_length_le (by omega)]; exact hx)))
      go_wp2_with fail
      go_ret
      exact ⟨by rw [hat.out]; rfl, rfl⟩
/-- The place of a vocabulary; -1: there is none. -/
def findV (l : List Vo) (s : ByteArray) : Int := match l.findIdx? (fun v => decide (v.1 = s)) with | some i => (i : Int) | none => -1
theorem findV_some {l : List Vo} {s : ByteArray} (i : Nat) (hi : i < l.length) (h : (l[i]).1 = s) (h0 : ∀ v ∈ l.take i, v.1 ≠ s) : findV l s = i := by
  unfold findV
  have : l.findIdx? (fun v => decide (v.1 = s)) = some i := by
    rw [List.findIdx?_eq_some_iff_getElem]
    refine ⟨hi, by simp [h], fun j hj => ?_⟩
    have := h0 l[j] (List.mem_take_iff_getElem.2 ⟨j, by omega, rfl⟩)
    simpa using this
  rw [this]
theorem findV_none {l : List Vo} {s : ByteArray} (h : ∀ v ∈ l, v.1 ≠ s) : findV l s = -1 := by
  unfold findV
  have : l.findIdx? (fun v => decide (v.1 = s)) = none := by
    rw [List.findIdx?_eq_none_iff]
    intro x hx
    simpa using h x hx
  rw [this]
theorem findV_cases (l : List Vo) (s : ByteArray) : (findV l s = -1 ∧ ∀ v ∈ l, v.1 ≠ s) ∨ ∃ i, ∃ hi : i < l.length, findV l s = i ∧ (l[i]).1 = s := by
  unfold findV
  cases h : l.findIdx? (fun v => decide (v.1 = s)) with
  | none =>
    rw [List.findIdx?_eq_none_iff] at h
    exact .inl ⟨rfl, fun v hv => by simpa using h v hv⟩
  | some i =>
    rw [List.findIdx?_eq_some_iff_getElem] at h
    obtain ⟨hi, h1, _⟩ := h
    exact .inr ⟨i, hi, rfl, by simpa using h1⟩
theorem find_c (A : Option Addr) (c : Nat) (l : List Vo) (s : ByteArray) (w : World) (hC : kV.C w A l.length l) (hl : l.length ≤ 16777216) :
    Calls Try.prog 27 #[.slice A l.length c, .string s] w fun e w' => e = .returned (.int .i64 (findV l s)) ∧ w' = w := by
  have HC := Lib.hid hC
  have hli : (l.length : Int) ≤ 16777216 := by omega
  clear hC
  go_enter Try.func27, Try.ntmps27
  go_wp2_with fail
  go_loopg [5] l.length (fun m iv wz => ∃ (k : Nat), iv = .int .i64 k ∧ wz = w ∧ Aside1 (k + m = l.length ∧ ∀ v ∈ l.take k, v.1 ≠ s))
  case atStart => exact ⟨0, rfl, rfl, ⟨by omega, by simp⟩⟩
  case round =>
    obtain ⟨k, rfl, hwz, ⟨hk, hn⟩⟩ := hrel
    rw [hwz]
    clear hwz
    have HK := Lib.hid hk
    have HN := Lib.hid hn
    clear hk hn
    by_cases hkl : k < l.length
    · have hki : (k : Int) < (l.length : Int) := by omega
      obtain ⟨ad, Au, cu, hA, e1, e2, hCu, hcu⟩ := vocab_at HC.out rfl k hkl
      subst hA
      obtain ⟨x, hx⟩ : ∃ x, (l[k]).1 = x := ⟨_, rfl⟩
      rw [hx] at e1
      have HX := Lib.hid hx
      clear hx e2 hCu hcu
      by_cases hxs : x = s
      · have hxe := tl_true hxs
        have hat : Hid (findV l s = k) := Lib.hid (findV_some k hkl (HX.out.trans hxs) HN.out)
        clear hxs
        go_wp2_with fail
        go_ret
        exact ⟨by rw [hat.out]; rfl, rfl⟩
      · have hxe := tl_false hxs
        have hN2 : Hid (∀ v ∈ l.take (k + 1), v.1 ≠ s) := Lib.hid (fun y hy => by
          rw [List.take_succ_eq_append_getElem hkl] at hy
          rcases List.mem_append.1 hy with h | h
          · exact HN.out y h
          · rw [List.mem_singleton.1 h, HX.out]; exact hxs)
        clear hxs
        go_wp2_with fail
        go_roundg (gk - 1)
        case measure => have := HK.out; omega
        case rel => exact ⟨k + 1, (by simp), rfl, ⟨by have := HK.out; omega, hN2.out⟩⟩
    · have hki : ¬ (k : Int) < (l.length : Int) := by omega
      have hat : Hid (findV l s = -1) := Lib.hid (findV_none (fun x hx => HN.out x (by rw [List.take_of_length_le (by omega)]; exact hx)))
      go_wp2_with fail
      go_ret
      exact ⟨by rw [hat.out]; rfl, rfl⟩
theorem least_c (A : Option Addr) (c : Nat) (b : List ByteArray) (W : World) (hC : Kd.string.C W A b.length b) (hne : b ≠ []) (hl : b.length ≤ 16777216) :
    Calls Try.prog 25 #[.slice A b.length c] W fun e w' => e = .returned (.string (mnL b)) ∧ w' = W := by
  have hpos : 0 < b.length := List.length_pos_iff.2 hne
  have hli : (b.length : Int) ≤ 16777216 := by omega
  have hlp : (1 : Int) ≤ (b.length : Int) := by omega
  obtain ⟨ad, rfl, e0⟩ := name_at hC rfl 0 hpos
  have HC := Lib.hid hC
  rw [show ad.add 0 = ad from by simp [Addr.add]] at e0
  obtain ⟨x0, hx0⟩ : ∃ x0, b[0] = x0 := ⟨_, rfl⟩
  rw [hx0] at e0
  have hx1 : Hid ((b.take 1).tail.foldl mn2 (b.headD ByteArray.empty) = x0) := Lib.hid (by
    cases b with
    | nil => cases hpos
    | cons y r => simpa using hx0)
  have hrm := run_min_str
  clear hC hx0 hne hpos
  go_enter Try.func25, Try.ntmps25
  go_wp2_with fail
  go_loopg [3, 4] b.length (fun m sv iv wz => ∃ (k : Nat) (s : ByteArray), iv = .int .i64 k ∧ sv = .string s ∧ wz = W ∧ Aside1 (1 ≤ k ∧ k ≤ b.length ∧ m + k = b.length + 1 ∧ (b.take k).tail.foldl mn2 (b.headD ByteArray.empty) = s))
  case atStart => exact ⟨1, x0, rfl, rfl, rfl, ⟨by omega, by omega, by omega, hx1.out⟩⟩
  case round =>
    obtain ⟨k, s, rfl, rfl, hwz, ⟨hk⟩⟩ := hrel
    rw [hwz]
    clear hwz
    have HK := Lib.hid hk
    by_cases hkl : k < b.length
    · have hki : (k : Int) < (b.length : Int) := by omega
      obtain ⟨ad', hA, e1⟩ := name_at HC.out rfl k hkl
      obtain rfl : ad = ad' := by injection hA
      obtain ⟨x, hx⟩ : ∃ x, b[k] = x := ⟨_, rfl⟩
      rw [hx] at e1
      have hst : (b.take (k + 1)).tail.foldl mn2 (b.headD ByteArray.empty) = mn2 s x := by
        have h2 : (b.take (k + 1)).tail = (b.take k).tail ++ [x] := by
          rw [List.take_succ_eq_append_getElem hkl, hx]
          exact List.tail_append_of_ne_nil (by intro h; have h3 := congrArg List.length h; simp at h3; rcases h3 with h3 | h3; have := HK.out.1; omega; rw [h3] at hkl; simp at hkl)
        rw [h2, List.foldl_append, HK.out.2.2.2]
        rfl
      have HST := Lib.hid hst
      clear hk hst hx
      go_wp2_with fail
      go_roundg (gk - 1)
      case measure => have := HK.out; omega
      case rel => exact ⟨k + 1, mn2 s x, (by simp), rfl, rfl, ⟨by omega, by omega, by have := HK.out; omega, HST.out⟩⟩
    · have hki : ¬ (k : Int) < (b.length : Int) := by omega
      have hat : Hid (mnL b = s) := Lib.hid (by have h := hk.2.2.2; rw [List.take_of_length_le (by omega)] at h; exact h)
      clear hk
      go_wp2_with fail
      go_ret
      exact ⟨by rw [hat.out]; rfl, rfl⟩
/-- Is all that is used in one of two lists? -/
noncomputable def rdyV (us a b : List ByteArray) : Bool := by classical exact decide (∀ u ∈ us, u ∈ a ∨ u ∈ b)
theorem rdyV_true {us a b : List ByteArray} : rdyV us a b = true ↔ ∀ u ∈ us, u ∈ a ∨ u ∈ b := by unfold rdyV; simp
theorem ready_c (nm : ByteArray) (Au : Option Addr) (cu : Nat) (us : List ByteArray) (A B : Option Addr) (c d : Nat) (a b : List ByteArray) (w : World) (hU : Kd.string.C w Au us.length us) (hA : Kd.string.C w A a.length a) (hB : Kd.string.C w B b.length b) (hul : us.length ≤ 4194304) (hal : a.length ≤ 16777216) (hbl : b.length ≤ 16777216) :
    Calls Try.prog 29 #[.agg #[.string nm, .slice Au us.length cu], .slice A a.length c, .slice B b.length d] w fun e w' => e = .returned (.bool (rdyV us a b)) ∧ Below w.heap.size w w' := by
  have HU := Lib.hid hU
  have B1 := Lib.hid (((Only.refl w (fun _ => False)).alloc (.cells #[.string nm, .slice Au us.length cu] 33)).below_all)
  have X := Blk.new w 33 [.string nm, .slice Au us.length cu]
  have x1 := X.cell_at 1 _ rfl
  have H1 : Hid (∀ s, Calls Try.prog 28 #[.slice A a.length c, .string s] (w.alloc (.cells #[.string nm, .slice Au us.length cu] 33)) fun e w' => e = .returned (.bool (decide (s ∈ a))) ∧ w' = (w.alloc (.cells #[.string nm, .slice Au us.length cu] 33))) := Lib.hid (fun s => has_c A c a s _ (Kd.C_below hA B1.out) hal)
  have H2 : Hid (∀ s, Calls Try.prog 28 #[.slice B b.length d, .string s] (w.alloc (.cells #[.string nm, .slice Au us.length cu] 33)) fun e w' => e = .returned (.bool (decide (s ∈ b))) ∧ w' = (w.alloc (.cells #[.string nm, .slice Au us.length cu] 33))) := Lib.hid (fun s => has_c B d b s _ (Kd.C_below hB B1.out) hbl)
  have hli : (us.length : Int) ≤ 4194304 := by omega
  clear hU hA hB X
  go_enter Try.func29, Try.ntmps29
  go_wp2_with fail
  obtain ⟨w1, hw1⟩ : ∃ w1, w1 = w.alloc (.cells #[.string nm, .slice Au us.length cu] 33) := ⟨_, rfl⟩
  rw [← hw1] at H1 H2 B1 x1 ⊢
  clear hw1
  go_loopg [7] us.length (fun m iv wz => ∃ (k : Nat), iv = .int .i64 k ∧ wz = w1 ∧ Aside1 (k + m = us.length ∧ ∀ u ∈ us.take k, u ∈ a ∨ u ∈ b))
  case atStart => exact ⟨0, rfl, rfl, ⟨by omega, by simp⟩⟩
  case round =>
    obtain ⟨k, rfl, hwz, ⟨hk, hn⟩⟩ := hrel
    rw [hwz]
    clear hwz
    have HK := Lib.hid hk
    have HN := Lib.hid hn
    clear hk hn
    by_cases hkl : k < us.length
    · have hki : (k : Int) < (us.length : Int) := by omega
      obtain ⟨ad, hAd, e1⟩ := name_at (Kd.C_below HU.out B1.out) rfl k hkl
      subst hAd
      obtain ⟨x, hx⟩ : ∃ x, us[k] = x := ⟨_, rfl⟩
      rw [hx] at e1
      have HX := Lib.hid hx
      have J1 := Lib.hid (H1.out x)
      have J2 := Lib.hid (H2.out x)
      obtain ⟨p, hp⟩ : ∃ p : Bool, p = decide (x ∈ a) := ⟨_, rfl⟩
      obtain ⟨q, hq⟩ : ∃ q : Bool, q = decide (x ∈ b) := ⟨_, rfl⟩
      rw [← hp] at J1
      rw [← hq] at J2
      have HP := Lib.hid hp
      have HQ := Lib.hid hq
      clear hx hp hq
      have hN2 : Hid ((p = true ∨ q = true) → ∀ u ∈ us.take (k + 1), u ∈ a ∨ u ∈ b) := Lib.hid (fun hpq y hy => by
        rw [List.take_succ_eq_append_getElem hkl, HX.out] at hy
        rcases List.mem_append.1 hy with h | h
        · exact HN.out y h
        · rw [List.mem_singleton.1 h]
          rcases hpq with h | h
          · rw [HP.out] at h; exact .inl (of_decide_eq_true h)
          · rw [HQ.out] at h; exact .inr (of_decide_eq_true h))
      have hF2 : Hid (p = false → q = false → ¬ ∀ u ∈ us, u ∈ a ∨ u ∈ b) := Lib.hid (fun h1 h2 h => by
        rw [HP.out] at h1
        rw [HQ.out] at h2
        rcases h x (by rw [← HX.out]; exact List.getElem_mem hkl) with h3 | h3
        · exact of_decide_eq_false h1 h3
        · exact of_decide_eq_false h2 h3)
      cases p with
      | true =>
        go_wp2_with (first
          | (go_at_call 28; with_reducible refine J1.out.mono ?_; rintro en wx ⟨rfl, hwx⟩; rw [hwx]; clear hwx)
          | fail)
        go_roundg (gk - 1)
        case measure => have := HK.out; omega
        case rel => exact ⟨k + 1, (by simp), rfl, ⟨by have := HK.out; omega, hN2.out (.inl (by first | rfl | trivial))⟩⟩
      | false =>
        cases q with
        | true =>
          go_wp2_with (first
            | (go_at_call 28; with_reducible refine J1.out.mono ?_; rintro en wx ⟨rfl, hwx⟩; rw [hwx]; clear hwx)
            | (go_at_call 28; with_reducible refine J2.out.mono ?_; rintro en wx ⟨rfl, hwx⟩; rw [hwx]; clear hwx)
            | fail)
          go_roundg (gk - 1)
          case measure => have := HK.out; omega
          case rel => exact ⟨k + 1, (by simp), rfl, ⟨by have := HK.out; omega, hN2.out (.inr (by first | rfl | trivial))⟩⟩
        | false =>
          have hno := hF2.out rfl rfl
          have hrv : Hid (rdyV us a b = false) := Lib.hid (by cases h : rdyV us a b with | false => rfl | true => exact absurd (rdyV_true.1 h) hno)
          clear hno
          go_wp2_with (first
            | (go_at_call 28; with_reducible refine J1.out.mono ?_; rintro en wx ⟨rfl, hwx⟩; rw [hwx]; clear hwx)
            | (go_at_call 28; with_reducible refine J2.out.mono ?_; rintro en wx ⟨rfl, hwx⟩; rw [hwx]; clear hwx)
            | fail)
          go_ret
          exact ⟨by rw [hrv.out]; rfl, B1.out⟩
    · have hki : ¬ (k : Int) < (us.length : Int) := by omega
      have hrv : Hid (rdyV us a b = true) := Lib.hid (rdyV_true.2 (by have h := HN.out; rwa [List.take_of_length_le (by omega)] at h))
      go_wp2_with fail
      go_ret
      exact ⟨by rw [hrv.out]; rfl, B1.out⟩
end Go.Proofs.Ytlphpmdmlcphbaa.Or
