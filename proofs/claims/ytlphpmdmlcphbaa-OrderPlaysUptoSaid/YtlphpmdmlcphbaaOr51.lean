/- Seat E: the reference's reached, walked. -/
import Derived.Test.YtlphpmdmlcphbaaOr50
namespace Go.Proofs.Ytlphpmdmlcphbaa.Or
open Go Go.RowKit Go.Proofs.Ytlphpmdmlcphbaa.Mem Go.Proofs.YtlphpmdmlcphbaaW.PrintWords Go.Maps Go.Proofs.Ytlphpmdmlcphbaa.Om
set_option linter.unusedVariables false
set_option linter.unusedSimpArgs false
set_option maxRecDepth 100000
set_option maxHeartbeats 2000000
theorem uses_none {l : List Vo} {x : ByteArray} (h : ∀ v ∈ l, v.1 ≠ x) : usesOf l x = none := by
  cases hu : usesOf l x with
  | none => rfl
  | some us => exact absurd rfl (h _ (usesOf_name hu))
theorem prefix_own {w : World} {base : Nat} {A : Option Addr} {c : Nat} {l : List ByteArray} {x : ByteArray} (h : OwnS w base (.slice A (l ++ [x]).length c) (l ++ [x])) : OwnS w base (.slice A l.length c) l :=
  Kd.own_of_R (R_pop (Kd.R_of_own (enc := Value.string) (h1 := fun _ => rfl) (ok := fun _ => True) h (fun _ _ => trivial)))
theorem reached_c (A : Option Addr) (c : Nat) (l : List Vo) (B : Option Addr) (d : Nat) (fl : List ByteArray) (D : Option Addr) (g : Nat) (hv : List ByteArray) (w : World) (hC : kV.C w A l.length l) (hF : Fine l) (hbad : bads l = [])
    (hW : Kd.string.C w B fl.length fl) (hWn : fl.length ≤ 4194304) (hH : Kd.string.C w D hv.length hv) (hHn : hv.length ≤ 1048576) (seen0 miss0 : List ByteArray) (hr : want l hv.reverse 16777216 fl [] [] = some (seen0, miss0)) :
    Calls Try.prog 26 #[.slice A l.length c, .slice B fl.length d, .slice D hv.length g] w fun e w' => ∃ v, e = .returned v ∧ OwnS w' w.heap.size v seen0.reverse ∧ Below w.heap.size w w' := by
  have HCL := Lib.hid hC
  have HF := Lib.hid hF
  have HBAD := Lib.hid hbad
  have HH := Lib.hid hH
  have HHN := Lib.hid hHn
  have HWN := Lib.hid hWn
  have B1 := Lib.hid (((Below.refl w.heap.size w).alloc (Nat.le_refl _) (.cells #[] 9)))
  have HW := Lib.hid (Kd.C_below hW B1.out)
  have HR := Lib.hid hr
  have hul : Hid (∀ x, (uses l x).length ≤ 4194304) := Lib.hid (fun x => Nat.le_trans (uses_len l x) HF.out.2.1)
  have hub : Hid (fl.length + ub l [] ≤ 8388608) := Lib.hid (by have := HWN.out; have := ub_tot l; have := HF.out.2.1; omega)
  have hll : (l.length : Int) ≤ 4194304 := by have := hF.2.2; omega
  clear hC hF hbad hW hWn hH hHn hr
  go_enter Try.func26, Try.ntmps26
  go_wp2_with (first
    | ((with_reducible refine gate_builtin (b := .append) (xs := #[.tmp 11, .tmp 12]) rfl ?_); at_builtin; go_loud (refine Kd.R_append_rows Kd.string (w0 := w) (W := w.alloc (.cells #[] 9)) w.heap.size rfl (.tmp 11) (.tmp 12) 23 9 (.string ByteArray.empty) 16 rfl (by kernel_rfl) info9m rfl (by decide) (by decide) (.slice (some ⟨w.heap.size, 0, none⟩) 0 0) [] fl B fl.length d (fun _ => True) (fun _ => False) rfl rfl (Kd.R_of_own (empty_own w 9 w.heap.size (Nat.le_refl _)) (fun _ _ => trivial)) HW.out (fun _ _ h => h) (fun _ h => h.elim) (fun _ _ => trivial) B1.out B1.out.size (by have := HWN.out; simp; omega) ?_); intro v4 w4 r4 b4 g4 at4
       obtain ⟨A4, c4, rfl⟩ := Kd.R_slice r4
       have O4 := Lib.hid (show OwnS w4 w.heap.size (.slice A4 fl.length c4) fl from Kd.own_of_R r4)
       have B4 := Lib.hid b4
       clear r4 b4 g4 at4)
    | fail)
  clear B1 HW
  go_loopg [7, 8] 16777216 (fun q sv2 tv wr => ∃ (st seen sr miss : List ByteArray) (At As : Option Addr) (ct cs : Nat), tv = .slice At st.length ct ∧ sv2 = .slice As sr.length cs ∧ Aside1 (want l hv.reverse q st seen miss = some (seen0, miss0) ∧ st.length + ub l seen ≤ 8388608 ∧ seen.length + q ≤ 16777216 ∧ sr = seen.reverse) ∧
    Aside1 (OwnS wr w.heap.size (.slice At st.length ct) st) ∧ Aside1 (OwnS wr w.heap.size (.slice As sr.length cs) sr) ∧ Aside1 (∀ b, (Value.slice At st.length ct).ownBlock = some b → (Value.slice As sr.length cs).ownBlock ≠ some b) ∧ Aside1 (Below w.heap.size w wr))
  case atStart => exact ⟨fl, [], [], [], A4, none, c4, 0, rfl, rfl, ⟨HR.out, hub.out, by simp, rfl⟩, ⟨O4.out⟩, ⟨World.ownsRow_nil _ _ _ _⟩, ⟨fun b _ h => by cases h⟩, ⟨B4.out⟩⟩
  case round =>
    obtain ⟨st, seen, sr, miss, At, As, ct, cs, rfl, rfl, ⟨hci, hbud, hsn, hsr⟩, ⟨hT⟩, ⟨hS⟩, ⟨hDJ⟩, ⟨hB⟩⟩ := hrel
    have CI := Lib.hid hci
    have BU := Lib.hid hbud
    have SN := Lib.hid hsn
    have SR := Lib.hid hsr
    have hsl : sr.length ≤ 16777216 := by rw [hsr, List.length_reverse]; omega
    have OT := Lib.hid hT
    have OS := Lib.hid hS
    have DJ := Lib.hid hDJ
    have B := Lib.hid hB
    clear hci hbud hsn hsr hT hS hDJ hB O4 B4
    by_cases h0 : st.length = 0
    · have hrf : seen = seen0 := by
        have h := CI.out
        rcases gk with _ | q
        · rw [want] at h; cases h
        · rw [want, if_pos h0] at h
          injection h with h
          injection h with h1 h2
      have HRF := Lib.hid hrf
      clear CI hrf
      rw [h0]
      go_wp2_with fail
      go_ret
      refine ⟨_, rfl, ?_, B.out⟩
      rw [← HRF.out, ← SR.out]
      exact OS.out
    · obtain ⟨rs, x, rfl⟩ := snoc_of h0
      obtain ⟨ad, rfl, ex⟩ := name_at (OwnS.reads OT.out).1 rfl rs.length (by simp)
      rw [List.getElem_append_right (Nat.le_refl _)] at ex
      simp only [Nat.sub_self, List.getElem_cons_zero] at ex
      have hcl : rs.length + 1 ≤ ct := by have := (OwnS.reads OT.out).2.1; simpa using this
      have hln : (rs ++ [x]).length = rs.length + 1 := by simp
      have hrl : (rs.length : Int) ≤ 8388608 := by have := BU.out; rw [hln] at this; omega
      have hsli : (sr.length : Int) ≤ 16777216 := by omega
      have RP := Lib.hid (prefix_own OT.out)
      have DJ2 : Hid (∀ b, (Value.slice (some ad) rs.length ct).ownBlock = some b → (Value.slice As sr.length cs).ownBlock ≠ some b) := DJ
      have H1 := Lib.hid (has_c D g hv x wr (Kd.C_below HH.out B.out) (by have := HHN.out; omega))
      have H2 := Lib.hid (has_c As cs sr x wr (OwnS.reads OS.out).1 hsl)
      obtain ⟨q, hq⟩ : ∃ q, gk = q + 1 := by
        rcases gk with _ | q
        · have h := CI.out
          rw [want] at h
          cases h
        · exact ⟨q, rfl⟩
      have hci := CI.out
      rw [hq, want_succ] at hci
      have CI2 := Lib.hid hci
      have HQ := Lib.hid hq
      have hbud2 : Hid (rs.length + ub l seen ≤ 8388608) := Lib.hid (by have := BU.out; rw [hln] at this; omega)
      rw [hln]
      have hst := Lib.hid (ub_step l seen x)
      clear hci hq
      obtain ⟨p, hp⟩ : ∃ p : Bool, p = decide (x ∈ hv) := ⟨_, rfl⟩
      obtain ⟨r, hr⟩ : ∃ r : Bool, r = decide (x ∈ sr) := ⟨_, rfl⟩
      rw [← hp] at H1
      rw [← hr] at H2
      have HP := Lib.hid hp
      have HRR := Lib.hid hr
      have hmr : Hid (x ∈ sr ↔ x ∈ seen) := Lib.hid (by rw [SR.out, List.mem_reverse])
      clear hp hr
      cases p with
      | true =>
        have CI3 := Lib.hid (show want l hv.reverse q rs seen miss = some (seen0, miss0) by have h := CI2.out; rwa [if_pos (Or.inl (List.mem_reverse.2 (of_decide_eq_true HP.out.symm)))] at h)
        go_wp2_with (first
          | (go_at_call 28; with_reducible refine H1.out.mono ?_; rintro en wx ⟨rfl, hwx⟩; rw [hwx]; clear hwx)
          | fail)
        go_roundg q
        case measure => have := HQ.out; omega
        case rel => exact ⟨rs, seen, sr, miss, some ad, As, ct, cs, rfl, rfl, ⟨CI3.out, hbud2.out, by have := SN.out; have := HQ.out; omega, SR.out⟩, ⟨RP.out⟩, ⟨OS.out⟩, ⟨DJ2.out⟩, ⟨B.out⟩⟩
      | false =>
        cases r with
        | true =>
          have CI3 := Lib.hid (show want l hv.reverse q rs seen miss = some (seen0, miss0) by have h := CI2.out; rwa [if_pos (Or.inr (hmr.out.1 (of_decide_eq_true HRR.out.symm)))] at h)
          go_wp2_with (first
            | (go_at_call 28; with_reducible refine H1.out.mono ?_; rintro en wx ⟨rfl, hwx⟩; rw [hwx]; clear hwx)
            | (go_at_call 28; with_reducible refine H2.out.mono ?_; rintro en wx ⟨rfl, hwx⟩; rw [hwx]; clear hwx)
            | fail)
          go_roundg q
          case measure => have := HQ.out; omega
          case rel => exact ⟨rs, seen, sr, miss, some ad, As, ct, cs, rfl, rfl, ⟨CI3.out, hbud2.out, by have := SN.out; have := HQ.out; omega, SR.out⟩, ⟨RP.out⟩, ⟨OS.out⟩, ⟨DJ2.out⟩, ⟨B.out⟩⟩
        | false =>
          have hxs : Hid (x ∉ seen) := Lib.hid (fun h => of_decide_eq_false HRR.out.symm (hmr.out.2 h))
          have hci3 := CI2.out
          rw [if_neg (show ¬ (x ∈ hv.reverse ∨ x ∈ seen) from fun h => h.elim (fun h => of_decide_eq_false HP.out.symm (List.mem_reverse.1 h)) hxs.out)] at hci3
          have CI4 := Lib.hid hci3
          clear hci3
          rcases findV_cases l x with ⟨hfv, hnm⟩ | ⟨i, hi, hfv, hnm⟩
          · have CI5 := Lib.hid (show want l hv.reverse q rs (x :: seen) (miss ++ [x]) = some (seen0, miss0) by have h := CI4.out; rwa [if_pos (uses_none hnm)] at h)
            have HFV := Lib.hid hfv
            clear hfv hnm
            go_wp2_with (first
              | (go_at_call 28; with_reducible refine H1.out.mono ?_; rintro en wx ⟨rfl, hwx⟩; rw [hwx]; clear hwx)
              | (go_at_call 28; with_reducible refine H2.out.mono ?_; rintro en wx ⟨rfl, hwx⟩; rw [hwx]; clear hwx)
              | ((with_reducible refine gate_builtin (b := .append) (xs := #[.tmp 36, .tmp 38]) rfl ?_); at_builtin; go_loud (refine Kd.R_append Kd.string (w0 := wr) (W := wr) w.heap.size rfl (.tmp 36) (.tmp 38) 23 9 (.string ByteArray.empty) 16 rfl (by kernel_rfl) info9m rfl (by decide) (by decide) (.slice As sr.length cs) sr x [.string x] (fun _ => True) (fun _ => False) rfl rfl rfl (fun _ h => h.elim) (fun _ _ => trivial) (Kd.R_of_own OS.out (fun _ _ => trivial)) (Below.refl _ _) B.out.size (by omega) ?_); intro v5 w5 r5 b5 g5 at5
                 obtain ⟨A5, c5, rfl⟩ := Kd.R_slice r5
                 have S5 := Lib.hid (show OwnS w5 w.heap.size (.slice A5 (sr ++ [x]).length c5) (sr ++ [x]) from Kd.own_of_R r5)
                 have T5 := Lib.hid (show OwnS w5 w.heap.size (.slice (some ad) rs.length ct) rs from World.ownsRow.kept RP.out g5 (.inr (fun e => DJ2.out ad.block rfl e.symm)))
                 have DJ5 : Hid (∀ b, (Value.slice (some ad) rs.length ct).ownBlock = some b → (Value.slice A5 (sr ++ [x]).length c5).ownBlock ≠ some b) := Lib.hid (fun b hb hm => by
                   rcases at5 with h | ⟨b', h, hge⟩
                   · exact DJ2.out b hb (h.symm.trans hm)
                   · rw [h] at hm
                     injection hm with hm
                     have := (World.ownsRow.lt RP.out b hb).2
                     omega)
                 have B5 := Lib.hid (B.out.trans b5)
                 have FC := Lib.hid (find_c A c l x w5 (Kd.C_below HCL.out B5.out) (by have := HF.out.2.2; omega))
                 clear r5 b5 g5 at5)
              | (go_at_call 27; with_reducible refine FC.out.mono ?_; rintro en wx ⟨rfl, hwx⟩; rw [hwx, HFV.out]; clear hwx)
              | fail)
            go_roundg q
            case measure => have := HQ.out; omega
            case rel => exact ⟨rs, x :: seen, sr ++ [x], miss ++ [x], some ad, A5, ct, c5, rfl, (by simp), ⟨CI5.out, by have := hbud2.out; have := hst.out hxs.out; omega, by have := SN.out; have := HQ.out; simp; omega, by rw [List.reverse_cons, SR.out]⟩, ⟨T5.out⟩, ⟨S5.out⟩, ⟨DJ5.out⟩, ⟨B5.out⟩⟩
          · have hmem : l[i] ∈ l := List.getElem_mem hi
            have huo := usesOf_at HBAD.out hmem
            rw [hnm] at huo
            have hus : uses l x = (l[i]).2 := by unfold uses; rw [huo]; rfl
            have CI5 := Lib.hid (show want l hv.reverse q (rs ++ uses l x) (x :: seen) miss = some (seen0, miss0) by have h := CI4.out; rwa [if_neg (by rw [huo]; simp)] at h)
            have HFV := Lib.hid hfv
            have HUS := Lib.hid hus
            have hii : (i : Int) < (l.length : Int) := by omega
            have HI := Lib.hid hi
            clear hfv hnm huo hus hmem
            go_wp2_with (first
              | (go_at_call 28; with_reducible refine H1.out.mono ?_; rintro en wx ⟨rfl, hwx⟩; rw [hwx]; clear hwx)
              | (go_at_call 28; with_reducible refine H2.out.mono ?_; rintro en wx ⟨rfl, hwx⟩; rw [hwx]; clear hwx)
              | ((with_reducible refine gate_builtin (b := .append) (xs := #[.tmp 36, .tmp 38]) rfl ?_); at_builtin; go_loud (refine Kd.R_append Kd.string (w0 := wr) (W := wr) w.heap.size rfl (.tmp 36) (.tmp 38) 23 9 (.string ByteArray.empty) 16 rfl (by kernel_rfl) info9m rfl (by decide) (by decide) (.slice As sr.length cs) sr x [.string x] (fun _ => True) (fun _ => False) rfl rfl rfl (fun _ h => h.elim) (fun _ _ => trivial) (Kd.R_of_own OS.out (fun _ _ => trivial)) (Below.refl _ _) B.out.size (by omega) ?_); intro v5 w5 r5 b5 g5 at5
                 obtain ⟨A5, c5, rfl⟩ := Kd.R_slice r5
                 have S5 := Lib.hid (show OwnS w5 w.heap.size (.slice A5 (sr ++ [x]).length c5) (sr ++ [x]) from Kd.own_of_R r5)
                 have T5 := Lib.hid (show OwnS w5 w.heap.size (.slice (some ad) rs.length ct) rs from World.ownsRow.kept RP.out g5 (.inr (fun e => DJ2.out ad.block rfl e.symm)))
                 have DJ5 : Hid (∀ b, (Value.slice (some ad) rs.length ct).ownBlock = some b → (Value.slice A5 (sr ++ [x]).length c5).ownBlock ≠ some b) := Lib.hid (fun b hb hm => by
                   rcases at5 with h | ⟨b', h, hge⟩
                   · exact DJ2.out b hb (h.symm.trans hm)
                   · rw [h] at hm
                     injection hm with hm
                     have := (World.ownsRow.lt RP.out b hb).2
                     omega)
                 have B5 := Lib.hid (B.out.trans b5)
                 have FC := Lib.hid (find_c A c l x w5 (Kd.C_below HCL.out B5.out) (by have := HF.out.2.2; omega))
                 clear r5 b5 g5 at5)
              | (go_at_call 27; with_reducible refine FC.out.mono ?_; rintro en wx ⟨rfl, hwx⟩; rw [hwx, HFV.out]; clear hwx
                 obtain ⟨al, Au, cu, hAl, e1, e2, hCu, hcu⟩ := vocab_at (Kd.C_below HCL.out B5.out) rfl i HI.out
                 rw [← HUS.out] at e2 hCu hcu
                 subst hAl
                 have HCU := Lib.hid hCu
                 clear hCu)
              | ((with_reducible refine gate_builtin (b := .append) (xs := #[.tmp 45, .tmp 50]) rfl ?_); at_builtin; go_loud (refine Kd.R_append_rows Kd.string (w0 := w5) (W := w5) w.heap.size rfl (.tmp 45) (.tmp 50) 23 9 (.string ByteArray.empty) 16 rfl (by kernel_rfl) info9m rfl (by decide) (by decide) (.slice (some ad) rs.length ct) rs (uses l x) Au (uses l x).length cu (fun _ => True) (fun _ => False) rfl rfl (Kd.R_of_own T5.out (fun _ _ => trivial)) HCU.out (fun _ _ h => h) (fun _ h => h.elim) (fun _ _ => trivial) (Below.refl _ _) B5.out.size (by have := hbud2.out; have := hul.out x; omega) ?_); intro v6 w6 r6 b6 g6 at6
                 obtain ⟨A6, c6, rfl⟩ := Kd.R_slice r6
                 have T6 := Lib.hid (show OwnS w6 w.heap.size (.slice A6 (rs ++ uses l x).length c6) (rs ++ uses l x) from Kd.own_of_R r6)
                 have S6 := Lib.hid (show OwnS w6 w.heap.size (.slice A5 (sr ++ [x]).length c5) (sr ++ [x]) from World.ownsRow.kept S5.out g6 (.inr (fun e => DJ5.out ad.block rfl e)))
                 have DJ6 : Hid (∀ b, (Value.slice A6 (rs ++ uses l x).length c6).ownBlock = some b → (Value.slice A5 (sr ++ [x]).length c5).ownBlock ≠ some b) := Lib.hid (fun b hb hm => by
                   rcases at6 with h | ⟨b', h, hge⟩
                   · exact DJ5.out b (h.symm.trans hb) hm
                   · rw [h] at hb
                     injection hb with hb
                     have := (World.ownsRow.lt S5.out b hm).2
                     omega)
                 have B6 := Lib.hid (B5.out.trans b6)
                 clear r6 b6 g6 at6)
              | fail)
            go_roundg q
            case measure => have := HQ.out; omega
            case rel => exact ⟨rs ++ uses l x, x :: seen, sr ++ [x], miss, A6, A5, c6, c5, (by simp), (by simp), ⟨CI5.out, by have := hbud2.out; have := hst.out hxs.out; rw [List.length_append]; omega, by have := SN.out; have := HQ.out; simp; omega, by rw [List.reverse_cons, SR.out]⟩, ⟨T6.out⟩, ⟨S6.out⟩, ⟨DJ6.out⟩, ⟨B6.out⟩⟩
end Go.Proofs.Ytlphpmdmlcphbaa.Or
