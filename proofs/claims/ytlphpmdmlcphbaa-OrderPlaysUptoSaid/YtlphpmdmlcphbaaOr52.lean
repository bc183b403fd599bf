/- Seat E: the reference's twice, walked. -/
import Derived.Test.YtlphpmdmlcphbaaOr51
namespace Go.Proofs.Ytlphpmdmlcphbaa.Or
open Go Go.RowKit Go.Proofs.Ytlphpmdmlcphbaa.Mem Go.Proofs.YtlphpmdmlcphbaaW.PrintWords Go.Maps Go.Proofs.Ytlphpmdmlcphbaa.Om
set_option linter.unusedVariables false
set_option linter.unusedSimpArgs false
set_option maxRecDepth 100000
set_option maxHeartbeats 2000000
theorem C_take {α : Type} {d : Kd α} {w : World} {A : Option Addr} {xs : List α} (h : d.C w A xs.length xs) (i : Nat) (hi : i ≤ xs.length) : d.C w A (xs.take i).length (xs.take i) := by
  refine ⟨rfl, Nat.le_trans (by rw [List.length_take]; exact Nat.min_le_right _ _) h.2.1, fun hp => ?_⟩
  have hpos : 0 < xs.length := by rw [List.length_take] at hp; omega
  obtain ⟨ad, hA, hc⟩ := h.2.2 hpos
  refine ⟨ad, hA, fun j p hj => hc j p ?_⟩
  rw [List.getElem?_take] at hj
  split at hj
  · exact hj
  · cases hj
theorem ust_fst (n : ByteArray) : ∀ (us S B : List ByteArray), (us.foldl (ust n) (S, B)).1 = us.reverse ++ S
  | [], S, B => by simp
  | u :: r, S, B => by
    rw [List.foldl_cons]
    unfold ust
    have ih := ust_fst n r (u :: S) (if u ∈ S then B ++ [n] else B)
    unfold ust at ih
    rw [ih]
    simp
theorem tst_fst : ∀ (l : List Vo) (S B : List ByteArray), (l.foldl tst (S, B)).1 = (l.map (·.1)).reverse ++ S
  | [], S, B => by simp
  | v :: r, S, B => by
    rw [List.foldl_cons]
    have e : tst (S, B) v = (v.1 :: S, (v.2.foldl (ust v.1) ([], if v.1 ∈ S then B ++ [v.1] else B)).2) := rfl
    rw [e, tst_fst r]
    simp
theorem findV_nonneg {l : List Vo} {s : ByteArray} : 0 ≤ findV l s ↔ s ∈ l.map (·.1) := by
  rcases findV_cases l s with ⟨h1, h2⟩ | ⟨i, hi, h1, h2⟩
  · rw [h1]
    refine ⟨fun h => by omega, fun h => ?_⟩
    obtain ⟨v, hv, e⟩ := List.mem_map.1 h
    exact absurd e (h2 v hv)
  · rw [h1]
    exact ⟨fun _ => List.mem_map.2 ⟨l[i], List.getElem_mem hi, h2⟩, fun _ => by omega⟩
theorem twice_ref (A : Option Addr) (c : Nat) (l : List Vo) (w : World) (hC : kV.C w A l.length l) (hc : l.length ≤ c) (hF : Fine l) :
    Calls Try.prog 24 #[.slice A l.length c] w fun e w' => ∃ v, e = .returned v ∧ OwnS w' w.heap.size v (bads l) ∧ Below w.heap.size w w' := by
  have HCL := Lib.hid hC
  have HF := Lib.hid hF
  have hll : (l.length : Int) ≤ 4194304 := by have := hF.2.2; omega
  have hlc : (l.length : Int) ≤ (c : Int) := by omega
  clear hC hF
  go_enter Try.func24, Try.ntmps24
  go_wp2_with fail
  go_loopg [3, 4] l.length (fun m bv iv wr => ∃ (k : Nat) (Sk Bk : List ByteArray) (Ab : Option Addr) (cb : Nat), iv = .int .i64 k ∧ bv = .slice Ab Bk.length cb ∧ Aside1 (k + m = l.length ∧ (l.take k).foldl tst ([], []) = (Sk, Bk)) ∧ Aside1 (OwnS wr w.heap.size (.slice Ab Bk.length cb) Bk) ∧ Aside1 (Below w.heap.size w wr))
  case atStart => exact ⟨0, [], [], none, 0, rfl, rfl, ⟨by omega, rfl⟩, ⟨World.ownsRow_nil _ _ _ _⟩, ⟨Below.refl _ _⟩⟩
  case round =>
    obtain ⟨k, Sk, Bk, Ab, cb, rfl, rfl, ⟨hkm, hfo⟩, ⟨hO⟩, ⟨hB⟩⟩ := hrel
    have KM := Lib.hid hkm
    have FO := Lib.hid hfo
    have O := Lib.hid hO
    have B := Lib.hid hB
    have hlen := tst_len (l.take k) ([], [])
    rw [hfo] at hlen
    have HBk : Hid (Bk.length ≤ 4194304) := Lib.hid (by have := tot_take l k; have := HF.out.2.1; have := hlen.1; simp at this; omega)
    have hsk := tst_fst (l.take k) [] []
    rw [hfo, List.append_nil] at hsk
    have HSK := Lib.hid (show Sk = ((l.take k).map (·.1)).reverse from hsk)
    clear hkm hfo hO hB hlen hsk
    have hkl : (k : Int) ≤ 4194304 := by have := KM.out; omega
    by_cases hk : k < l.length
    · have hki : (k : Int) < (l.length : Int) := by omega
      have hkc : (k : Int) ≤ (c : Int) := by omega
      obtain ⟨ad, Au, cu, hAd, e1, e2, hCu, hcu⟩ := vocab_at HCL.out rfl k hk
      obtain ⟨nm, us, hlk⟩ : ∃ nm us, l[k] = (nm, us) := ⟨_, _, rfl⟩
      have hmem : (nm, us) ∈ l := hlk ▸ List.getElem_mem hk
      have husl : us.length ≤ 4194304 := by have h1 := HF.out.2.1; have h2 := le_tot hmem; dsimp only at h2; omega
      rw [hlk] at e1 e2 hCu hcu
      dsimp only at e1 e2 hCu hcu
      have HLT : Hid (∀ w', Below w.heap.size w w' → w'.cell? (ad.add (k * 2)) = some (.string nm) ∧ w'.cell? ⟨(ad.add (k * 2)).block, (ad.add (k * 2)).off + 1, none⟩ = some (.slice Au us.length cu)) := Lib.hid (fun w' hb => ⟨(hb.cell (World.block_lt_of_cell? _ _ e1)).trans e1, (hb.cell (p := ⟨(ad.add (k * 2)).block, (ad.add (k * 2)).off + 1, none⟩) (World.block_lt_of_cell? _ _ e2)).trans e2⟩)
      obtain ⟨h1, h2⟩ := HLT.out wr B.out
      have HCu := Lib.hid hCu
      have HLK := Lib.hid hlk
      have FC : Hid (∀ m, Calls Try.prog 27 #[.slice A k c, .string nm] (wr.drewN m) fun e w' => e = .returned (.int .i64 (findV (l.take k) nm)) ∧ w' = wr.drewN m) := Lib.hid (fun m => by
        have h := find_c A c (l.take k) nm (wr.drewN m) (C_take (Kd.C_below HCL.out ((Only.of_below B.out (fun _ => False)).drewN m).below_all) k (by omega)) (by rw [List.length_take]; omega)
        rwa [List.length_take, Nat.min_eq_left (by omega)] at h)
      have HFV : Hid (0 ≤ findV (l.take k) nm ↔ nm ∈ Sk) := Lib.hid (by rw [findV_nonneg, HSK.out, List.mem_reverse])
      subst hAd
      clear e1 e2 hCu hlk
      obtain ⟨fv, hfv⟩ : ∃ fv, fv = findV (l.take k) nm := ⟨_, rfl⟩
      rw [← hfv] at FC HFV
      clear hfv
      by_cases hin : 0 ≤ fv
      all_goals first
        | (have hyes : 0 ≤ fv := hin
           go_must (go_wp2_with fail
                    go_quiet ((go_at_call 27; exact Calls.quiet_of_same (FC.out _)))
                    have B1 := Lib.hid (((Only.of_below B.out (fun _ => False)).drewN nq).below_all)
                    have O1 := Lib.hid (OwnS.below O.out (((Only.refl wr (fun _ => False)).drewN nq).below_all))
                    generalize wr.drewN nq = w1 at *
                    obtain ⟨h1, h2⟩ := HLT.out w1 B1.out
                    go_wp2_with (first
                      | ((with_reducible refine gate_builtin (b := .append) (xs := #[.tmp 22, .tmp 28]) rfl ?_); at_builtin; go_loud (refine Kd.R_append Kd.string (w0 := w1) (W := w1) w.heap.size rfl (.tmp 22) (.tmp 28) 23 9 (.string ByteArray.empty) 16 rfl (by kernel_rfl) info9m rfl (by decide) (by decide) (.slice Ab Bk.length cb) Bk nm [.string nm] (fun _ => True) (fun _ => False) rfl rfl rfl (fun _ h => h.elim) (fun _ _ => trivial) (Kd.R_of_own O1.out (fun _ _ => trivial)) (Below.refl _ _) B1.out.size (by have := HBk.out; omega) ?_); intro v4 w2 r4 b4 g4 at4
                         obtain ⟨A2, c2, rfl⟩ := Kd.R_slice r4
                         have O2 := Lib.hid (show OwnS w2 w.heap.size (.slice A2 (Bk ++ [nm]).length c2) (Bk ++ [nm]) from Kd.own_of_R r4)
                         have B2' := Lib.hid (B1.out.trans b4)
                         obtain ⟨h3, h4⟩ := HLT.out w2 B2'.out
                         clear r4 b4 g4 at4)
                      | fail)
                    obtain ⟨B2, hB2⟩ : ∃ B2, B2 = Bk ++ [nm] := ⟨_, rfl⟩
                    have HB2 := Lib.hid (show B2 = if nm ∈ Sk then Bk ++ [nm] else Bk by rw [if_pos (HFV.out.1 hyes)]; exact hB2)
                    have hl2 : Bk.length + 1 = B2.length := by rw [hB2]; simp
                    have o2 := O2.out
                    rw [← hB2] at o2
                    have O3 := Lib.hid o2
                    rw [hl2]
                    clear hl2 hB2 o2 O2))
        | (have hno : ¬ (0 ≤ fv) := hin
           go_must (go_wp2_with fail
                    go_quiet ((go_at_call 27; exact Calls.quiet_of_same (FC.out _)))
                    have B2' := Lib.hid (((Only.of_below B.out (fun _ => False)).drewN nq).below_all)
                    have O2 := Lib.hid (OwnS.below O.out (((Only.refl wr (fun _ => False)).drewN nq).below_all))
                    generalize wr.drewN nq = w2 at *
                    obtain ⟨h3, h4⟩ := HLT.out w2 B2'.out
                    generalize Ab = A2 at *
                    generalize cb = c2 at *
                    go_wp2_with fail
                    obtain ⟨B2, hB2⟩ : ∃ B2, B2 = Bk := ⟨_, rfl⟩
                    have HB2 := Lib.hid (show B2 = if nm ∈ Sk then Bk ++ [nm] else Bk by rw [if_neg (fun h => by have := HFV.out.2 h; omega)]; exact hB2)
                    have o2 := O2.out
                    rw [← hB2] at o2 ⊢
                    have O3 := Lib.hid o2
                    clear hB2 o2 O2))
      all_goals
        obtain ⟨go, hgo⟩ : ∃ go, go = gk := ⟨_, rfl⟩
        subst hgo
        have hB2l : Hid (B2.length ≤ Bk.length + 1) := Lib.hid (by rw [HB2.out]; split <;> simp)
        go_loopg [3, 5] us.length (fun m bv iv wz => ∃ (j : Nat) (So Bo : List ByteArray) (Ao : Option Addr) (co : Nat), iv = .int .i64 j ∧ bv = .slice Ao Bo.length co ∧ Aside1 (j + m = us.length ∧ (us.take j).foldl (ust nm) ([], B2) = (So, Bo)) ∧ Aside1 (OwnS wz w.heap.size (.slice Ao Bo.length co) Bo) ∧ Aside1 (Below w.heap.size w wz))
      all_goals first
        | (case atStart => exact ⟨0, [], B2, A2, c2, rfl, rfl, ⟨by omega, by simp⟩, ⟨O3.out⟩, ⟨B2'.out⟩⟩)
        | skip
      all_goals
        obtain ⟨j, So, Bo, Ao, co, rfl, rfl, ⟨hjm, hfo⟩, ⟨hoo⟩, ⟨hbb⟩⟩ := hrel
        have JM := Lib.hid hjm
        have FO2 := Lib.hid hfo
        have O5 := Lib.hid hoo
        have B5 := Lib.hid hbb
        have hso := ust_fst nm (us.take j) [] B2
        rw [hfo, List.append_nil] at hso
        have HSO := Lib.hid (show So = (us.take j).reverse from hso)
        have hBo : Hid (Bo.length ≤ 8388610) := Lib.hid (by
          have h1 := (ust_len nm (us.take j) ([], B2)).1
          rw [hfo] at h1
          have h2 := hB2l.out
          have h3 := HBk.out
          have h4 : (us.take j).length ≤ us.length := by simp; omega
          dsimp only at h1
          omega)
        clear hjm hfo hoo hbb hso
        obtain ⟨z1, z2⟩ := HLT.out wr B5.out
        have hjl0 : (j : Int) ≤ 4194304 := by have := JM.out; omega
        by_cases hj : j < us.length
      all_goals first
        | (have hj2 : j < us.length := hj
           go_must (have hji : (j : Int) < (us.length : Int) := by omega
                    have hjc : (j : Int) ≤ (cu : Int) := by omega
                    obtain ⟨adu, hAu, eu⟩ := name_at (Kd.C_below HCu.out B5.out) rfl j hj2
                    obtain ⟨u, hu⟩ : ∃ u, us[j] = u := ⟨_, rfl⟩
                    rw [hu] at eu
                    subst hAu
                    have HU := Lib.hid hu
                    have HC : Hid (∀ m, Calls Try.prog 28 #[.slice (some adu) j cu, .string u] (wr.drewN m) fun e w' => e = .returned (.bool (decide (u ∈ us.take j))) ∧ w' = wr.drewN m) := Lib.hid (fun m => by
                      have h := has_c (some adu) cu (us.take j) u (wr.drewN m) (C_take (Kd.C_below HCu.out ((Only.of_below B5.out (fun _ => False)).drewN m).below_all) j (by omega)) (by rw [List.length_take]; omega)
                      rwa [List.length_take, Nat.min_eq_left (by omega)] at h)
                    obtain ⟨r, hr⟩ : ∃ r : Bool, r = decide (u ∈ us.take j) := ⟨_, rfl⟩
                    rw [← hr] at HC
                    have hst : ust nm (So, Bo) u = (u :: So, if r = true then Bo ++ [nm] else Bo) := by
                      unfold ust
                      dsimp only
                      congr 1
                      by_cases hm : u ∈ us.take j
                      · rw [hr, decide_eq_true hm, if_pos (by rw [HSO.out]; exact List.mem_reverse.2 hm), if_pos rfl]
                      · rw [hr, decide_eq_false hm, if_neg (by rw [HSO.out]; exact fun h => hm (List.mem_reverse.1 h)), if_neg (by decide)]
                    have HST := Lib.hid hst
                    have hsnoc : Hid ((us.take (j + 1)).foldl (ust nm) ([], B2) = (u :: So, if r = true then Bo ++ [nm] else Bo)) := Lib.hid (by
                      rw [take_fold _ _ _ _ hj2, FO2.out, HU.out, HST.out])
                    clear hu hr hst
                    cases r
                    · go_wp2_with fail
                      go_quiet ((go_at_call 28; exact Calls.quiet_of_same (HC.out _)))
                      have B6 := Lib.hid (((Only.of_below B5.out (fun _ => False)).drewN nq).below_all)
                      have O6 := Lib.hid (OwnS.below O5.out (((Only.refl wr (fun _ => False)).drewN nq).below_all))
                      generalize wr.drewN nq = w6 at *
                      go_wp2_with fail
                      go_roundg (gk - 1)
                      case measure => have := JM.out; omega
                      case rel => exact ⟨j + 1, u :: So, Bo, Ao, co, (by simp), rfl, ⟨by have := JM.out; omega, by have h := hsnoc.out; simpa using h⟩, ⟨O6.out⟩, ⟨B6.out⟩⟩
                    · go_wp2_with fail
                      go_quiet ((go_at_call 28; exact Calls.quiet_of_same (HC.out _)))
                      have B6 := Lib.hid (((Only.of_below B5.out (fun _ => False)).drewN nq).below_all)
                      have O6 := Lib.hid (OwnS.below O5.out (((Only.refl wr (fun _ => False)).drewN nq).below_all))
                      generalize wr.drewN nq = w6 at *
                      obtain ⟨y1, y2⟩ := HLT.out w6 B6.out
                      go_wp2_with (first
                        | ((with_reducible refine gate_builtin (b := .append) (xs := #[.tmp 56, .tmp 62]) rfl ?_); at_builtin; go_loud (refine Kd.R_append Kd.string (w0 := w6) (W := w6) w.heap.size rfl (.tmp 56) (.tmp 62) 23 9 (.string ByteArray.empty) 16 rfl (by kernel_rfl) info9m rfl (by decide) (by decide) (.slice Ao Bo.length co) Bo nm [.string nm] (fun _ => True) (fun _ => False) rfl rfl rfl (fun _ h => h.elim) (fun _ _ => trivial) (Kd.R_of_own O6.out (fun _ _ => trivial)) (Below.refl _ _) B6.out.size (by have := hBo.out; omega) ?_); intro v7 w7 r7 b7 g7 at7
                           obtain ⟨A7, c7, rfl⟩ := Kd.R_slice r7
                           have O7 := Lib.hid (show OwnS w7 w.heap.size (.slice A7 (Bo ++ [nm]).length c7) (Bo ++ [nm]) from Kd.own_of_R r7)
                           have B7 := Lib.hid (B6.out.trans b7)
                           clear r7 b7 g7 at7)
                        | fail)
                      go_roundg (gk - 1)
                      case measure => have := JM.out; omega
                      case rel => exact ⟨j + 1, u :: So, Bo ++ [nm], A7, c7, (by simp), (by simp), ⟨by have := JM.out; omega, by have h := hsnoc.out; simpa using h⟩, ⟨O7.out⟩, ⟨B7.out⟩⟩))
        | (have hj2 : ¬ j < us.length := hj
           go_must (have hji : ¬ (j : Int) < (us.length : Int) := by omega
                    have hfin : Hid ((l.take (k + 1)).foldl tst ([], []) = (nm :: Sk, Bo)) := Lib.hid (by
                      rw [take_fold _ _ _ _ hk, FO.out, HLK.out]
                      have e : tst (Sk, Bk) (nm, us) = (nm :: Sk, (us.foldl (ust nm) ([], if nm ∈ Sk then Bk ++ [nm] else Bk)).2) := rfl
                      rw [e, ← HB2.out]
                      have h := FO2.out
                      rw [List.take_of_length_le (by omega)] at h
                      rw [h])
                    go_wp2_with fail
                    go_roundg (go - 1)
                    case measure => have := KM.out; omega
                    case rel => exact ⟨k + 1, nm :: Sk, Bo, Ao, co, (by simp), rfl, ⟨by have := KM.out; omega, hfin.out⟩, ⟨O5.out⟩, ⟨B5.out⟩⟩))
    · have hki : ¬ (k : Int) < (l.length : Int) := by omega
      have hbd : Hid (bads l = Bk) := Lib.hid (by unfold bads; have h := FO.out; rw [List.take_of_length_le (by omega)] at h; rw [h])
      go_wp2_with fail
      go_ret
      exact ⟨_, rfl, by rw [hbd.out]; exact O.out, B.out⟩
end Go.Proofs.Ytlphpmdmlcphbaa.Or
