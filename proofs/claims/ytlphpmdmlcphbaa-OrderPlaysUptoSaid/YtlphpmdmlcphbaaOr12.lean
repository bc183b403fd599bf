/- Seat E: order.Sort, walked. -/
import Derived.Test.YtlphpmdmlcphbaaOr11
namespace Go.Proofs.Ytlphpmdmlcphbaa.Or
open Go Go.RowKit Go.Proofs.Ytlphpmdmlcphbaa.Mem Go.Proofs.YtlphpmdmlcphbaaW.PrintWords Go.Maps Go.Proofs.Ytlphpmdmlcphbaa.Om
set_option linter.unusedVariables false
set_option linter.unusedSimpArgs false
set_option maxRecDepth 100000
set_option maxHeartbeats 400000
theorem VC.below {w w' : World} {A : Option Addr} {l : List Vo} (h : VC w A l) (hb : Below w.heap.size w w') : VC w' A l := by
  intro k hk
  obtain ⟨ad, Au, cu, hA, e1, e2, hC, hr⟩ := h k hk
  exact ⟨ad, Au, cu, hA, (hb.cell (World.block_lt_of_cell? _ _ e1)).trans e1, (hb.cell (p := ⟨(ad.add (k * 2)).block, (ad.add (k * 2)).off + 1, none⟩) (World.block_lt_of_cell? _ _ e2)).trans e2, Kd.C_below hC hb, hr⟩
/-- The first name of a list that lies on a circle. -/
noncomputable def firstC (l : List Vo) (H : List ByteArray) : List ByteArray → Option ByteArray
  | [] => none
  | x :: r => if circ l H x 16777216 (uses l x) [] = some true then some x else firstC l H r
/-- What comes of order.Sort. -/
noncomputable def sortV (l : List Vo) (wl hv : List ByteArray) : Option (List ByteArray × ByteArray × Int) :=
  if bads l = [] then
    match want l hv.reverse 16777216 wl [] [] with
    | none => none
    | some (seen, miss) =>
      if miss = [] then
        match firstC l hv.reverse (srt seen) with
        | some x => some ([], x, 15)
        | none => (topo l hv.reverse (srt seen) ((srt seen).length + 1) []).map (fun r => (r, ByteArray.empty, 0))
      else some ([], mnL miss, 6)
  else some ([], mnL (bads l), 14)
theorem want_len (l : List Vo) (H : List ByteArray) : ∀ (n : Nat) (st seen miss s' m' : List ByteArray), want l H n st seen miss = some (s', m') → miss.length ≤ seen.length → m'.length ≤ s'.length ∧ s'.length ≤ seen.length + n
  | 0, _, _, _, _, _, h, _ => by rw [want] at h; cases h
  | n + 1, st, seen, miss, s', m', h, hl => by
    rw [want] at h
    split at h
    · injection h with h
      injection h with h1 h2
      subst h1; subst h2
      omega
    · split at h
      · have := want_len l H n _ _ _ _ _ h hl; omega
      · split at h
        · have := want_len l H n _ _ _ _ _ h (by simp; omega)
          simp at this; omega
        · have := want_len l H n _ _ _ _ _ h (by simp; omega)
          simp at this; omega
theorem mem_uses_size {l : List Vo} (hF : Fine l) : ∀ (n : Nat) (H st seen miss s' m' : List ByteArray), want l H n st seen miss = some (s', m') → (∀ u ∈ st, u.size ≤ maxLen) → (∀ u ∈ seen, u.size ≤ maxLen) → ∀ u ∈ s', u.size ≤ maxLen
  | 0, _, _, _, _, _, _, h, _, _ => by rw [want] at h; cases h
  | n + 1, H, st, seen, miss, s', m', h, h1, h2 => by
    rw [want] at h
    have hdl : ∀ u ∈ st.dropLast, u.size ≤ maxLen := fun u hu => h1 u ((List.dropLast_sublist st).subset hu)
    split at h
    · injection h with h
      injection h with h3 h4
      subst h3; subst h4
      exact h2
    · rename_i hne
      have hx : (st.getLastD ByteArray.empty).size ≤ maxLen := by
        obtain ⟨r, x, rfl⟩ := snoc_of hne
        rw [show (r ++ [x]).getLastD ByteArray.empty = x by simp]
        exact h1 x (by simp)
      have hs2 : ∀ u ∈ st.getLastD ByteArray.empty :: seen, u.size ≤ maxLen := fun u hu => by
        rcases List.mem_cons.1 hu with h | h
        · rw [h]; exact hx
        · exact h2 u h
      split at h
      · exact mem_uses_size hF n H _ _ _ _ _ h hdl h2
      · split at h
        · exact mem_uses_size hF n H _ _ _ _ _ h hdl hs2
        · exact mem_uses_size hF n H _ _ _ _ _ h (fun u hu => by
            rcases List.mem_append.1 hu with h | h
            · exact hdl u h
            · exact uses_size hF _ u h) hs2
theorem mem_srt {x : ByteArray} {S : List ByteArray} : x ∈ srt S ↔ x ∈ S := by
  unfold srt
  rw [List.mem_map]
  constructor
  · rintro ⟨y, hy, rfl⟩
    rw [List.mem_mergeSort] at hy
    obtain ⟨z, hz, rfl⟩ := List.mem_map.1 hy
    rw [ofL_toL]
    exact mem_nub.1 hz
  · intro h
    exact ⟨toL x, List.mem_mergeSort.2 (List.mem_map.2 ⟨x, mem_nub.2 h, rfl⟩), ofL_toL x⟩
theorem nub_len : ∀ (S : List ByteArray), (nub S).length ≤ S.length
  | [] => Nat.le_refl _
  | y :: r => by
    unfold nub
    have := nub_len r
    split <;> simp <;> omega
theorem srt_len (S : List ByteArray) : (srt S).length ≤ S.length := by
  have := nub_len S
  unfold srt
  simp [List.length_mergeSort]
  exact this
theorem Sort_c (A : Option Addr) (c : Nat) (l : List Vo) (Aw : Option Addr) (cw : Nat) (wl : List ByteArray) (Ah : Option Addr) (ch : Nat) (hv : List ByteArray) (w : World) (hC : VC w A l) (hc : l.length ≤ c) (hF : Fine l)
    (hW : Kd.string.C w Aw wl.length wl) (hWc : wl.length ≤ cw) (hWf : Flat Aw cw) (hWs : (∀ u ∈ wl, u.size ≤ maxLen) ∧ wl.length ≤ 4194304)
    (hH : Kd.string.C w Ah hv.length hv) (hHc : hv.length ≤ ch) (hHs : (∀ u ∈ hv, u.size ≤ maxLen) ∧ hv.length ≤ 4194304) (o : List ByteArray) (x : ByteArray) (e : Int) (hr : sortV l wl hv = some (o, x, e)) :
    Calls Try.prog 8 #[.slice A l.length c, .slice Aw wl.length cw, .slice Ah hv.length ch] w fun en w' => ∃ v, en = .returned (.tuple #[v, .string x, .int .i64 e]) ∧ OwnS w' w.heap.size v o ∧ Below w.heap.size w w' := by
  have HCL := Lib.hid hC
  have HF := Lib.hid hF
  have HW := Lib.hid hW
  have HWF := Lib.hid hWf
  have HWS := Lib.hid hWs
  have HH := Lib.hid hH
  have HHC := Lib.hid hHc
  have HHS := Lib.hid hHs
  have HR := Lib.hid hr
  have HC := Lib.hid hc
  have TW := Lib.hid (twice_c mnL (Lib.hid min_ok) A c l w hC hc hF)
  clear hC hF hW hWc hWf hWs hH hHc hHs hr hc
  by_cases hbd : bads l = []
  · have hr2 : (match want l hv.reverse 16777216 wl [] [] with
        | none => none
        | some (seen, miss) =>
          if miss = [] then
            match firstC l hv.reverse (srt seen) with
            | some x => some ([], x, 15)
            | none => (topo l hv.reverse (srt seen) ((srt seen).length + 1) []).map (fun r => (r, ByteArray.empty, 0))
          else some ([], mnL miss, 6)) = some (o, x, e) := by
      have h := HR.out
      unfold sortV at h
      rwa [if_pos hbd] at h
    have tw := TW.out
    rw [if_pos hbd] at tw
    have TW2 := Lib.hid tw
    clear TW tw hbd HR
    obtain ⟨seen, miss, hwt⟩ : ∃ seen miss, want l hv.reverse 16777216 wl [] [] = some (seen, miss) := by
      cases h : want l hv.reverse 16777216 wl [] [] with
      | none => rw [h] at hr2; cases hr2
      | some p => exact ⟨p.1, p.2, rfl⟩
    rw [hwt] at hr2
    dsimp only at hr2
    have HWT := Lib.hid hwt
    have HR2 := Lib.hid hr2
    have hwl := want_len l hv.reverse _ _ _ _ _ _ hwt (Nat.le_refl _)
    have HWL := Lib.hid hwl
    have HSZ := Lib.hid (mem_uses_size HF.out _ _ _ _ _ _ _ hwt HWS.out.1 (by simp))
    clear hwt hr2 hwl
    obtain ⟨all, hall⟩ : ∃ all, all = srt seen := ⟨_, rfl⟩
    by_cases hmi : miss = []
    · have hr3 : (match firstC l hv.reverse (srt seen) with
            | some x => some ([], x, 15)
            | none => (topo l hv.reverse (srt seen) ((srt seen).length + 1) []).map (fun r => (r, ByteArray.empty, 0))) = some (o, x, e) := by
        have h := HR2.out
        rwa [if_pos hmi] at h
      have HR3 := Lib.hid hr3
      have hm0 : ¬ 0 < miss.length := by rw [hmi]; simp
      have HALL : Hid ((∀ u ∈ srt seen, u.size ≤ maxLen) ∧ (srt seen).length ≤ 16777216) := Lib.hid ⟨fun u hu => HSZ.out u (mem_srt.1 hu), by have h1 := srt_len seen; have h2 := HWL.out.2; simp at h2; omega⟩
      have hali : ((srt seen).length : Int) ≤ 16777216 := by have := HALL.out.2; omega
      rw [← hall] at HR3 HALL hali
      have HAL := Lib.hid hall
      clear HR2 hr3 hmi hall
      go_enter Try.func8, Try.ntmps8
      go_wp2_with (first
        | (go_at_call 17; go_loud (refine TW2.out.mono ?_); rintro en w1 ⟨rfl, b1⟩; have B1 := Lib.hid b1
           have OF := Lib.hid (of_c A c l Ah ch hv w1 (HCL.out.below b1) HC.out HF.out (Kd.C_below HH.out b1) HHC.out HHS.out)
           clear b1)
        | (go_at_call 18; go_loud (refine OF.out.mono ?_); rintro en w2 ⟨g, mu, mh, m, rfl, hg, hU, hUM, hM, hz1, hz2, hz3, hne, b2⟩
           have G2 := Lib.hid hg
           have U2 := Lib.hid hU
           have UM2 := Lib.hid hUM
           have M2 := Lib.hid hM
           have B2 := Lib.hid b2
           have BB2 := Lib.hid (B1.out.trans (b2.mono B1.out.size))
           have WA := Lib.hid (wanted_c srt (Lib.hid keys_c) g mu mh l.length hv.length m l hv.reverse Aw cw wl w1 w2 hg hU hUM b2 hM HF.out (Kd.C_below HW.out BB2.out) HWF.out HWS.out 16777216 (Nat.le_refl _) seen miss HWT.out)
           clear hg hU hUM hM hz1 hz2 hz3 hne b2)
        | (go_at_call 19; go_loud (refine WA.out.mono ?_); rintro en w3 ⟨v, vm, rfl, hO, hOm, b3⟩
           rw [← HAL.out] at hO
           obtain ⟨Av, cv, rfl⟩ := OwnS.slice hO
           obtain ⟨Am, cm, rfl⟩ := OwnS.slice hOm
           have O3 := Lib.hid hO
           have OM3 := Lib.hid hOm
           have B3 := Lib.hid b3
           clear hO hOm b3)
        | fail)
      clear OM3 OF WA TW2
      have G3 := Lib.hid (G2.out.below B3.out G2.out.lt)
      have U3 := Lib.hid (U2.out.below B3.out U2.out.lt)
      have M3 := Lib.hid (M2.out.below B3.out M2.out.lt)
      have BB3 := Lib.hid (BB2.out.trans (B3.out.mono BB2.out.size))
      have BU3 := Lib.hid (B2.out.trans (B3.out.mono B2.out.size))
      obtain ⟨A', c', hsl, hcc, hCA⟩ := Kd.R_reads (Kd.R_of_own (enc := Value.string) (h1 := fun _ => rfl) (ok := fun _ => True) O3.out (fun _ _ => trivial))
      injection hsl with e1 _ e2
      subst e1; subst e2
      have CA := Lib.hid hCA
      clear hCA G2 U2 M2 B2 BB2 B3
      go_loopg [39] all.length (fun mm iv wz => ∃ i : Nat, iv = .int .i64 i ∧ Aside1 (i + mm = all.length ∧ firstC l hv.reverse (all.drop i) = firstC l hv.reverse all) ∧ Aside1 (Below w3.heap.size w3 wz))
      case atStart => exact ⟨0, rfl, ⟨by omega, rfl⟩, ⟨Below.refl _ _⟩⟩
      case round =>
        obtain ⟨i, rfl, ⟨hi, hfi⟩, ⟨hB⟩⟩ := hrel
        have HI := Lib.hid hi
        have FI := Lib.hid hfi
        have B := Lib.hid hB
        clear hi hfi hB
        have CAr := Lib.hid (Kd.C_below CA.out B.out)
        have Gr := Lib.hid (G3.out.below B.out G3.out.lt)
        have Ur := Lib.hid (U3.out.below B.out U3.out.lt)
        have Mr := Lib.hid (M3.out.below B.out M3.out.lt)
        have BBr := Lib.hid (BB3.out.trans (B.out.mono BB3.out.size))
        have BUr := Lib.hid (BU3.out.trans (B.out.mono BU3.out.size))
        by_cases hil : i < all.length
        · have hii : (i : Int) < (all.length : Int) := by omega
          obtain ⟨ad, hAd, ex⟩ := name_at CAr.out rfl i hil
          obtain ⟨y, hy⟩ : ∃ y, all[i] = y := ⟨_, rfl⟩
          rw [hy] at ex
          subst hAd
          have hys : y.size ≤ maxLen := HALL.out.1 y (hy ▸ List.getElem_mem hil)
          obtain ⟨r, hcr⟩ := circ_total l hv.reverse y 16777216 (uses l y) [] (by have := uses_len l y; have := ub_tot l; have := HF.out.2.1; omega)
          have CI := Lib.hid (circle_c _ _ _ _ _ _ l hv.reverse y _ _ Gr.out Ur.out UM2.out BUr.out Mr.out HF.out hys 16777216 (Nat.le_refl _) r hcr)
          have hfc : Hid (firstC l hv.reverse (all.drop i) = if r = true then some y else firstC l hv.reverse (all.drop (i + 1))) := Lib.hid (by
            rw [List.drop_eq_getElem_cons hil, hy, firstC, hcr]
            simp)
          clear hy hcr
          cases r with
          | true =>
            have h1 := FI.out.symm.trans hfc.out
            rw [if_pos rfl] at h1
            have hrr := HR3.out
            rw [h1] at hrr
            injection hrr with hrr
            injection hrr with h2 h3
            injection h3 with h3 h4
            subst h2; subst h3; subst h4
            clear h1 HR3 hfc
            go_wp2_with (first
              | (go_at_call 21; go_loud (refine CI.out.mono ?_); rintro en w5 ⟨rfl, b5⟩; have B5 := Lib.hid b5; clear b5)
              | fail)
            go_ret3
            exact ⟨_, rfl, World.ownsRow_nil _ _ _ _, BBr.out.trans (B5.out.mono BBr.out.size)⟩
          | false =>
            have h1 := hfc.out.symm.trans FI.out
            rw [if_neg (by simp)] at h1
            have FI2 := Lib.hid h1
            clear h1 hfc
            go_wp2_with (first
              | (go_at_call 21; go_loud (refine CI.out.mono ?_); rintro en w5 ⟨rfl, b5⟩; have B5 := Lib.hid b5; clear b5)
              | fail)
            go_roundg (gk - 1)
            case measure => have := HI.out; omega
            case rel => exact ⟨i + 1, (by simp), ⟨by have := HI.out; omega, FI2.out⟩, ⟨B.out.trans (B5.out.mono B.out.size)⟩⟩
        · have hii : ¬ (i : Int) < (all.length : Int) := by omega
          have hfn : firstC l hv.reverse all = none := by
            rw [← FI.out, List.drop_of_length_le (by omega)]
            rfl
          have hrr := HR3.out
          rw [hfn] at hrr
          obtain ⟨res, hre, hrr⟩ := Option.map_eq_some_iff.1 hrr
          injection hrr with h2 h3
          injection h3 with h3 h4
          subst h2; subst h3; subst h4
          have SO := Lib.hid (sort_c _ _ _ _ _ _ l hv.reverse _ _ all _ _ Gr.out Ur.out UM2.out BUr.out Mr.out HF.out CAr.out hcc HALL.out (by have := HHS.out.2; omega) res (all.length + 1) hre)
          clear hre hfn HR3
          go_wp2_with (first
            | (go_at_call 22; go_loud (refine SO.out.mono ?_); rintro en w5 ⟨v5, rfl, o5, b5⟩; have B5 := Lib.hid b5; have O5 := Lib.hid o5; clear b5 o5)
            | fail)
          go_ret3
          exact ⟨_, rfl, own_weaken O5.out BBr.out.size, BBr.out.trans (B5.out.mono BBr.out.size)⟩
    · have hm0 : 0 < miss.length := List.length_pos_iff.2 hmi
      have hml : miss.length ≤ 16777216 := by have h1 := HWL.out; simp at h1; omega
      have hrr := HR2.out
      rw [if_neg hmi] at hrr
      injection hrr with hrr
      injection hrr with h2 h3
      injection h3 with h3 h4
      subst h2; subst h3; subst h4
      have HMI := Lib.hid hmi
      have HAL := Lib.hid hall
      clear HR2 hmi hall
      go_enter Try.func8, Try.ntmps8
      go_wp2_with (first
        | (go_at_call 17; go_loud (refine TW2.out.mono ?_); rintro en w1 ⟨rfl, b1⟩; have B1 := Lib.hid b1
           have OF := Lib.hid (of_c A c l Ah ch hv w1 (HCL.out.below b1) HC.out HF.out (Kd.C_below HH.out b1) HHC.out HHS.out)
           clear b1)
        | (go_at_call 18; go_loud (refine OF.out.mono ?_); rintro en w2 ⟨g, mu, mh, m, rfl, hg, hU, hUM, hM, hz1, hz2, hz3, hne, b2⟩
           have G2 := Lib.hid hg
           have U2 := Lib.hid hU
           have UM2 := Lib.hid hUM
           have M2 := Lib.hid hM
           have B2 := Lib.hid b2
           have BB2 := Lib.hid (B1.out.trans (b2.mono B1.out.size))
           have WA := Lib.hid (wanted_c srt (Lib.hid keys_c) g mu mh l.length hv.length m l hv.reverse Aw cw wl w1 w2 hg hU hUM b2 hM HF.out (Kd.C_below HW.out BB2.out) HWF.out HWS.out 16777216 (Nat.le_refl _) seen miss HWT.out)
           clear hg hU hUM hM hz1 hz2 hz3 hne b2)
        | (go_at_call 19; go_loud (refine WA.out.mono ?_); rintro en w3 ⟨v, vm, rfl, hO, hOm, b3⟩
           rw [← HAL.out] at hO
           obtain ⟨Av, cv, rfl⟩ := OwnS.slice hO
           obtain ⟨Am, cm, rfl⟩ := OwnS.slice hOm
           have O3 := Lib.hid hO
           have OM3 := Lib.hid hOm
           have B3 := Lib.hid b3
           clear hO hOm b3)
        | (go_at_call 20; go_loud (refine (min_c0 _ _ _ miss OM3.out HMI.out hml).mono ?_); rintro en w5 ⟨rfl, b5⟩; have B5 := Lib.hid b5
           have BB3 := Lib.hid (BB2.out.trans (B3.out.mono BB2.out.size))
           clear b5)
        | fail)
      go_ret3
      exact ⟨_, rfl, World.ownsRow_nil _ _ _ _, BB3.out.trans (B5.out.mono BB3.out.size)⟩
  · have hr2 : (([] : List ByteArray), mnL (bads l), (14 : Int)) = (o, x, e) := by
      have h := HR.out
      unfold sortV at h
      rw [if_neg hbd] at h
      injection h
    have tw := TW.out
    rw [if_neg hbd] at tw
    have TW2 := Lib.hid tw
    injection hr2 with h1 h2
    injection h2 with h2 h3
    subst h1; subst h2; subst h3
    clear TW tw hbd HR
    go_enter Try.func8, Try.ntmps8
    go_wp2_with (first
      | (go_at_call 17; go_loud (refine TW2.out.mono ?_); rintro en w1 ⟨rfl, b1⟩; have B1 := Lib.hid b1; clear b1)
      | fail)
    go_ret3
    exact ⟨_, rfl, World.ownsRow_nil _ _ _ _, B1.out⟩
end Go.Proofs.Ytlphpmdmlcphbaa.Or
