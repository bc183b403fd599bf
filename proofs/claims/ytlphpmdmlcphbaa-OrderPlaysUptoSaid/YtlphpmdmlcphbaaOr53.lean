/- Seat E: the reference's Sort, walked. -/
import Derived.Test.YtlphpmdmlcphbaaOr52
namespace Go.Proofs.Ytlphpmdmlcphbaa.Or
open Go Go.RowKit Go.Proofs.Ytlphpmdmlcphbaa.Mem Go.Proofs.YtlphpmdmlcphbaaW.PrintWords Go.Maps Go.Proofs.Ytlphpmdmlcphbaa.Om
set_option linter.unusedVariables false
set_option linter.unusedSimpArgs false
set_option maxRecDepth 100000
set_option maxHeartbeats 2000000
theorem filter_snoc (p : ByteArray → Bool) (all : List ByteArray) (i : Nat) (hi : i < all.length) : (all.take (i + 1)).filter p = (all.take i).filter p ++ (if p all[i] = true then [all[i]] else []) := by
  rw [List.take_succ_eq_append_getElem hi, List.filter_append, List.filter_cons, List.filter_nil]
noncomputable def onB (l : List Vo) (hv : List ByteArray) (x : ByteArray) : Bool := by classical exact decide (OnC l hv x)
theorem onB_true {l : List Vo} {hv : List ByteArray} {x : ByteArray} : onB l hv x = true ↔ OnC l hv x := by unfold onB; simp
theorem kept_ne {v : Value} {r : Option Nat} (hD : ∀ b, v.ownBlock = some b → r ≠ some b) : v.ownBlock = none ∨ v.ownBlock ≠ r := by
  cases h : v.ownBlock with
  | none => exact .inl rfl
  | some b => exact .inr (fun e => hD b h e.symm)
theorem want_nodup (l : List Vo) (H : List ByteArray) : ∀ (n : Nat) (st seen miss s' m' : List ByteArray), want l H n st seen miss = some (s', m') → seen.Nodup → s'.Nodup
  | 0, _, _, _, _, _, h, _ => by rw [want] at h; cases h
  | n + 1, st, seen, miss, s', m', h, hl => by
    rw [want] at h
    split at h
    · injection h with h
      injection h with h1 h2
      subst h1; subst h2
      exact hl
    · split at h
      · exact want_nodup l H n _ _ _ _ _ h hl
      · rename_i hx
        have hx2 : (st.getLastD ByteArray.empty :: seen).Nodup := List.nodup_cons.2 ⟨fun h => hx (.inr h), hl⟩
        split at h
        · exact want_nodup l H n _ _ _ _ _ h hx2
        · exact want_nodup l H n _ _ _ _ _ h hx2
/-- May a name come next? -/
noncomputable def mayB (l : List Vo) (hv order : List ByteArray) (x : ByteArray) : Bool := !decide (x ∈ order) && rdyV (uses l x) order hv
theorem mayB_true {l : List Vo} {hv order : List ByteArray} {x : ByteArray} : mayB l hv order x = true ↔ x ∉ order ∧ ∀ u ∈ uses l x, u ∈ order ∨ u ∈ hv := by
  unfold mayB
  rw [Bool.and_eq_true, rdyV_true]
  simp
theorem may_iff {l : List Vo} {hv order : List ByteArray} {x : ByteArray} (hx : x ∉ hv.reverse) : Rdy l (order.reverse ++ hv.reverse) x ↔ mayB l hv order x = true := by
  rw [mayB_true]
  unfold Rdy
  simp only [List.mem_append, List.mem_reverse, not_or] at hx ⊢
  exact ⟨fun h => ⟨h.1.1, h.2⟩, fun h => ⟨⟨h.1, hx⟩, h.2⟩⟩
theorem may_some {l : List Vo} {wl hv all order : List ByteArray} (hA : ∀ x, x ∈ all ↔ RW l wl hv x) (hN : ∀ x, RW l wl hv x → ¬ OnC l hv x) (hnd : all.Nodup) (ho : OrdA l hv.reverse all order) (hlt : order.length < all.length) : all.filter (mayB l hv order) ≠ [] := by
  have haH : ∀ x ∈ all, x ∉ hv.reverse := fun x hx => ((hA x).1 hx).notH
  have : ∃ m ∈ all, m ∉ order.reverse ++ hv.reverse := by
    by_cases h : ∃ m ∈ all, m ∉ order.reverse ++ hv.reverse
    · exact h
    · exfalso
      have : all.length ≤ order.length := nodup_sub_len hnd (fun x hx => by
        by_cases hxo : x ∈ order.reverse ++ hv.reverse
        · have h1 : x ∈ order ∨ x ∈ hv.reverse := by simpa using hxo
          exact h1.resolve_right (haH x hx)
        · exact absurd ⟨x, hx, hxo⟩ h)
      omega
  obtain ⟨m, hm, hmD⟩ := this
  obtain ⟨x, hx, hr⟩ := ready_some l hv.reverse all (order.reverse ++ hv.reverse) (fun x hx y hy hn => (hA y).2 (.step x y ((hA x).1 hx) hy hn)) (fun x hx => hN x ((hA x).1 hx)) (fun x hx => by simp only [List.mem_append]; exact .inr hx) _ m hm hmD (Nat.le_refl _)
  have := List.mem_filter.2 ⟨hx, (may_iff (haH x hx)).1 hr⟩
  intro e
  rw [e] at this
  cases this
theorem may_snoc {l : List Vo} {wl hv all order : List ByteArray} (hA : ∀ x, x ∈ all ↔ RW l wl hv x) (hN : ∀ x, RW l wl hv x → ¬ OnC l hv x) (hnd : all.Nodup) (ho : OrdA l hv.reverse all order) (hlt : order.length < all.length) : OrdA l hv.reverse all (order ++ [mnL (all.filter (mayB l hv order))]) := by
  obtain ⟨h1, h2⟩ := mnL_spec (may_some hA hN hnd ho hlt)
  have haH : ∀ x ∈ all, x ∉ hv.reverse := fun x hx => ((hA x).1 hx).notH
  obtain ⟨h3, h4⟩ := List.mem_filter.1 h1
  exact ho.snoc h3 ((may_iff (haH _ h3)).2 h4) (fun m hm hr => h2 m (List.mem_filter.2 ⟨hm, (may_iff (haH m hm)).1 hr⟩))
theorem ord_res {l : List Vo} {wl hv all order : List ByteArray} (hb : bads l = []) (hA : ∀ x, x ∈ all ↔ RW l wl hv x) (hK : ∀ x, RW l wl hv x → usesOf l x ≠ none) (hN : ∀ x, RW l wl hv x → ¬ OnC l hv x) (ho : OrdA l hv.reverse all order) (hlt : ¬ order.length < all.length) : Res l wl hv (order, ByteArray.empty, 0) := by
  have hs : ∀ x ∈ all, x ∈ order := nodup_sub_all ho.nodup ho.mem (by omega)
  refine .ok order ⟨hb, fun x => ⟨fun hx => (hA x).1 (ho.mem x hx), fun hx => hs x ((hA x).2 hx)⟩, fun x hx => hK x ((hA x).1 (ho.mem x hx)), ⟨fun x hx => hx, ho.new, ho.use, fun i hi m hm => ho.least i hi m (ho.mem m hm)⟩⟩ hN
theorem refSort_c (A : Option Addr) (c : Nat) (l : List Vo) (B : Option Addr) (d : Nat) (wl : List ByteArray) (D : Option Addr) (g : Nat) (hv : List ByteArray) (w : World) (hC : kV.C w A l.length l) (hc : l.length ≤ c) (hF : Fine l)
    (hW : Kd.string.C w B wl.length wl) (hWn : wl.length ≤ 4194304) (hH : Kd.string.C w D hv.length hv) (hHn : hv.length ≤ 1048576) :
    Calls Try.prog 13 #[.slice A l.length c, .slice B wl.length d, .slice D hv.length g] w fun e w' => ∃ v r, e = .returned (.tuple #[v, .string r.2.1, .int .i64 r.2.2]) ∧ OwnS w' w.heap.size v r.1 ∧ Res l wl hv r ∧ Below w.heap.size w w' := by
  have HCL := Lib.hid hC
  have HF := Lib.hid hF
  have HW := Lib.hid hW
  have HWN := Lib.hid hWn
  have HH := Lib.hid hH
  have HHN := Lib.hid hHn
  have TW := Lib.hid (twice_ref A c l w hC hc hF)
  have hll : (l.length : Int) ≤ 4194304 := by have := hF.2.2; omega
  have hbl : Hid ((bads l).length ≤ 16777216) := Lib.hid (by have h := (tst_len l ([], [])).1; unfold bads; have := hF.2.1; simp at h; omega)
  clear hC hc hF hW hWn hH hHn
  by_cases hbd : bads l = []
  · have HBD := Lib.hid hbd
    obtain ⟨⟨seen0, miss0⟩, hwt⟩ := want_total l hv.reverse 16777216 wl [] [] (by have := ub_tot l; have := HF.out.2.1; have := HWN.out; omega)
    have hsp := want_spec l hv.reverse (fun y => y ∈ wl) _ _ _ _ _ _ hwt (Clo.start _ _ _) (by simp)
    have HSP := Lib.hid (show ∀ x, x ∈ seen0.reverse ↔ RW l wl hv x from fun x => by rw [List.mem_reverse]; exact hsp.1 x)
    have HND := Lib.hid (show seen0.reverse.Nodup from (List.reverse_perm _).nodup_iff.2 (want_nodup l hv.reverse _ _ _ _ _ _ hwt List.nodup_nil))
    have hwl2 := (want_len l hv.reverse _ _ _ _ _ _ hwt (Nat.le_refl _)).2
    have HWT := Lib.hid hwt
    obtain ⟨all, hall⟩ : ∃ all, all = seen0.reverse := ⟨_, rfl⟩
    have hal : all.length ≤ 16777216 := by rw [hall, List.length_reverse]; simpa using hwl2
    have hali : (all.length : Int) ≤ 16777216 := by omega
    rw [← hall] at HSP HND
    have HALL := Lib.hid hall
    clear hwt hsp hwl2 hall
    go_enter Try.func13, Try.ntmps13
    go_wp2_with (first
      | (go_at_call 24; with_reducible refine TW.out.mono ?_; rintro en w1 ⟨v1, rfl, o1, b1⟩; obtain ⟨A1, c1, rfl⟩ := OwnS.slice o1; have O1 := Lib.hid o1; have B1 := Lib.hid b1; rw [HBD.out]
         have RE := Lib.hid (reached_c A c l B d wl D g hv w1 (Kd.C_below HCL.out b1) HF.out HBD.out (Kd.C_below HW.out b1) HWN.out (Kd.C_below HH.out b1) HHN.out seen0 miss0 HWT.out)
         clear o1 b1)
      | (go_at_call 26; with_reducible refine RE.out.mono ?_; rintro en w2 ⟨v2, rfl, o2, b2⟩; rw [← HALL.out] at o2; obtain ⟨A2, c2, rfl⟩ := OwnS.slice o2; have O2 := Lib.hid o2; have BB2 := Lib.hid b2; have B2 := Lib.hid (B1.out.trans (b2.mono B1.out.size)); clear o2 b2)
      | fail)
    have O1b := Lib.hid (show OwnS w2 w.heap.size (.slice A1 ([] : List ByteArray).length c1) [] from by have h := O1.out; rw [HBD.out] at h; exact OwnS.below h BB2.out)
    go_loopg [9, 11] all.length (fun mm bv iv wr => ∃ (i : Nat) (Bk : List ByteArray) (Ab : Option Addr) (cb : Nat), iv = .int .i64 i ∧ bv = .slice Ab Bk.length cb ∧ Aside1 (i + mm = all.length ∧ Bk = (all.take i).filter (fun x => (usesOf l x).isNone)) ∧ Aside1 (OwnS wr w.heap.size (.slice Ab Bk.length cb) Bk) ∧ Aside1 (OwnS wr w.heap.size (.slice A2 all.length c2) all) ∧ Aside1 (∀ b, (Value.slice A2 all.length c2).ownBlock = some b → (Value.slice Ab Bk.length cb).ownBlock ≠ some b) ∧ Aside1 (Below w.heap.size w wr))
    case atStart =>
      exact ⟨0, [], A1, c1, rfl, rfl, ⟨by omega, by simp⟩, ⟨O1b.out⟩, ⟨own_weaken O2.out B1.out.size⟩, ⟨fun b hb hb2 => by
        have h1 := (World.ownsRow.lt O2.out b hb).1
        have h2 : b < w1.heap.size := by have h := O1.out; rw [HBD.out] at h; exact (World.ownsRow.lt h b hb2).2
        omega⟩, ⟨B2.out⟩⟩
    case round =>
      obtain ⟨i, Bk, Ab, cb, rfl, rfl, ⟨hi, hBk⟩, ⟨hO⟩, ⟨hO2⟩, ⟨hDJ⟩, ⟨hB⟩⟩ := hrel
      have HI := Lib.hid hi
      have HBK := Lib.hid hBk
      have O := Lib.hid hO
      have OA := Lib.hid hO2
      have DJ := Lib.hid hDJ
      have B := Lib.hid hB
      have hbk : Bk.length ≤ 16777216 := by rw [hBk]; exact Nat.le_trans (List.length_filter_le _ _) (by rw [List.length_take]; omega)
      clear hi hBk hO hO2 hDJ hB O1b O1 O2 BB2 B2
      have hil0 : (i : Int) ≤ 16777216 := by have := HI.out; omega
      by_cases hil : i < all.length
      · have hii : (i : Int) < (all.length : Int) := by omega
        obtain ⟨a2, hA2, ex⟩ := name_at (OwnS.reads OA.out).1 rfl i hil
        obtain ⟨x, hx⟩ : ∃ x, all[i] = x := ⟨_, rfl⟩
        rw [hx] at ex
        subst hA2
        have FC := Lib.hid (find_c A c l x wr (Kd.C_below HCL.out B.out) (by have := HF.out.2.2; omega))
        have hfs := filter_snoc (fun x => (usesOf l x).isNone) all i hil
        rw [hx, ← HBK.out] at hfs
        have HFS := Lib.hid hfs
        clear hfs hx
        rcases findV_cases l x with ⟨hfv, hnm⟩ | ⟨k, hk, hfv, hnm⟩
        · have hF2 : Hid ((all.take (i + 1)).filter (fun x => (usesOf l x).isNone) = Bk ++ [x]) := Lib.hid (by rw [HFS.out, uses_none hnm]; rfl)
          have HFV := Lib.hid hfv
          clear hfv hnm
          go_wp2_with (first
            | (go_at_call 27; with_reducible refine FC.out.mono ?_; rintro en wx ⟨rfl, hwx⟩; rw [hwx, HFV.out]; clear hwx)
            | ((with_reducible refine gate_builtin (b := .append) (xs := #[.tmp 40, .tmp 45]) rfl ?_); at_builtin; go_loud (refine Kd.R_append Kd.string (w0 := wr) (W := wr) w.heap.size rfl (.tmp 40) (.tmp 45) 23 9 (.string ByteArray.empty) 16 rfl (by kernel_rfl) info9m rfl (by decide) (by decide) (.slice Ab Bk.length cb) Bk x [.string x] (fun _ => True) (fun _ => False) rfl rfl rfl (fun _ h => h.elim) (fun _ _ => trivial) (Kd.R_of_own O.out (fun _ _ => trivial)) (Below.refl _ _) B.out.size (by omega) ?_); intro v7 w7 r7 b7 g7 at7
               obtain ⟨A7, c7, rfl⟩ := Kd.R_slice r7
               have O7 := Lib.hid (show OwnS w7 w.heap.size (.slice A7 (Bk ++ [x]).length c7) (Bk ++ [x]) from Kd.own_of_R r7)
               have OA7 := Lib.hid (show OwnS w7 w.heap.size (.slice (some a2) all.length c2) all from World.ownsRow.kept OA.out g7 (.inr (fun e => DJ.out a2.block rfl e.symm)))
               have DJ7 : Hid (∀ b, (Value.slice (some a2) all.length c2).ownBlock = some b → (Value.slice A7 (Bk ++ [x]).length c7).ownBlock ≠ some b) := Lib.hid (fun b hb hm => by
                 rcases at7 with h | ⟨b', h, hge⟩
                 · exact DJ.out b hb (h.symm.trans hm)
                 · rw [h] at hm
                   injection hm with hm
                   have := (World.ownsRow.lt OA.out b hb).2
                   omega)
               have B7 := Lib.hid (B.out.trans b7)
               clear r7 b7 g7 at7)
            | fail)
          go_roundg (gk - 1)
          case measure => have := HI.out; omega
          case rel => exact ⟨i + 1, Bk ++ [x], A7, c7, (by simp), (by simp), ⟨by have := HI.out; omega, hF2.out.symm⟩, ⟨O7.out⟩, ⟨OA7.out⟩, ⟨DJ7.out⟩, ⟨B7.out⟩⟩
        · have hF2 : Hid ((all.take (i + 1)).filter (fun x => (usesOf l x).isNone) = Bk) := Lib.hid (by
            have huo := usesOf_at HBD.out (List.getElem_mem hk)
            rw [hnm] at huo
            rw [HFS.out, huo]
            simp)
          have HFV := Lib.hid hfv
          clear hfv hnm
          go_wp2_with (first
            | (go_at_call 27; with_reducible refine FC.out.mono ?_; rintro en wx ⟨rfl, hwx⟩; rw [hwx, HFV.out]; clear hwx)
            | fail)
          go_roundg (gk - 1)
          case measure => have := HI.out; omega
          case rel => exact ⟨i + 1, Bk, Ab, cb, (by simp), rfl, ⟨by have := HI.out; omega, hF2.out.symm⟩, ⟨O.out⟩, ⟨OA.out⟩, ⟨DJ.out⟩, ⟨B.out⟩⟩
      · have hii : ¬ (i : Int) < (all.length : Int) := by omega
        have HMB := Lib.hid (show ∀ x, x ∈ Bk ↔ RW l wl hv x ∧ usesOf l x = none from fun x => by
          have h := HBK.out
          rw [List.take_of_length_le (by omega)] at h
          rw [h, List.mem_filter, HSP.out x, Option.isNone_iff_eq_none])
        by_cases hbe : Bk = []
        · have HBE := Lib.hid hbe
          subst hbe
          have HKN := Lib.hid (show ∀ x, RW l wl hv x → usesOf l x ≠ none from fun x hx hn => by have := (HMB.out x).2 ⟨hx, hn⟩; cases this)
          have DJ0 := Lib.hid DJ.out
          have O0 := Lib.hid O.out
          have OA0 := Lib.hid OA.out
          have B0 := Lib.hid B.out
          clear HMB HBK HI HBE
          go_wp2_with fail
          clear O OA DJ B
          go_loopg [9, 12] all.length (fun mm bv iv wr => ∃ (i : Nat) (Bk : List ByteArray) (Ab : Option Addr) (cb : Nat), iv = .int .i64 i ∧ bv = .slice Ab Bk.length cb ∧ Aside1 (i + mm = all.length ∧ Bk = (all.take i).filter (onB l hv)) ∧ Aside1 (OwnS wr w.heap.size (.slice Ab Bk.length cb) Bk) ∧ Aside1 (OwnS wr w.heap.size (.slice A2 all.length c2) all) ∧ Aside1 (∀ b, (Value.slice A2 all.length c2).ownBlock = some b → (Value.slice Ab Bk.length cb).ownBlock ≠ some b) ∧ Aside1 (Below w.heap.size w wr))
          case atStart => exact ⟨0, [], Ab, cb, rfl, rfl, ⟨by omega, by simp⟩, ⟨O0.out⟩, ⟨OA0.out⟩, ⟨DJ0.out⟩, ⟨B0.out⟩⟩
          case round =>
            obtain ⟨i, Bk, Ab, cb, rfl, rfl, ⟨hi, hBk⟩, ⟨hO⟩, ⟨hO2⟩, ⟨hDJ⟩, ⟨hB⟩⟩ := hrel
            have HI := Lib.hid hi
            have HBK := Lib.hid hBk
            have O := Lib.hid hO
            have OA := Lib.hid hO2
            have DJ := Lib.hid hDJ
            have B := Lib.hid hB
            have hbk : Bk.length ≤ 16777216 := by rw [hBk]; exact Nat.le_trans (List.length_filter_le _ _) (by rw [List.length_take]; omega)
            clear hi hBk hO hO2 hDJ hB O0 OA0 DJ0 B0
            have hil0 : (i : Int) ≤ 16777216 := by have := HI.out; omega
            by_cases hil : i < all.length
            · have hii : (i : Int) < (all.length : Int) := by omega
              obtain ⟨a2, hA2, ex⟩ := name_at (OwnS.reads OA.out).1 rfl i hil
              obtain ⟨x, hx⟩ : ∃ x, all[i] = x := ⟨_, rfl⟩
              rw [hx] at ex
              subst hA2
              have BD := Lib.hid (((Only.of_below B.out (fun _ => False)).drew).below_all)
              have BDr := Lib.hid (((Only.refl wr (fun _ => False)).drew).below_all)
              have FC := Lib.hid (find_c A c l x wr.drew (Kd.C_below HCL.out BD.out) (by have := HF.out.2.2; omega))
              have hfs := filter_snoc (onB l hv) all i hil
              rw [hx, ← HBK.out] at hfs
              have HFS := Lib.hid hfs
              have hkx := HKN.out x ((HSP.out x).1 (hx ▸ List.getElem_mem hil))
              clear hfs hx
              rcases findV_cases l x with ⟨hfv, hnm⟩ | ⟨k, hk, hfv, hnm⟩
              · exact absurd (uses_none hnm) hkx
              · have huo := usesOf_at HBD.out (List.getElem_mem hk)
                rw [hnm] at huo
                have hus : uses l x = (l[k]).2 := by unfold uses; rw [huo]; rfl
                have hul : (uses l x).length ≤ 4194304 := Nat.le_trans (uses_len l x) HF.out.2.1
                obtain ⟨al, Au, cu, hAl, e1, e2, hCu, hcu⟩ := vocab_at HCL.out rfl k hk
                rw [← hus] at e2 hCu hcu
                subst hAl
                obtain ⟨⟨seen1, miss1⟩, hwt⟩ := want_total l hv.reverse 16777216 (uses l x) [] [] (by have := ub_tot l; have := HF.out.2.1; omega)
                have hsp := want_spec l hv.reverse (fun y => y ∈ uses l x) _ _ _ _ _ _ hwt (Clo.start _ _ _) (by simp)
                have hl1 := (want_len l hv.reverse _ _ _ _ _ _ hwt (Nat.le_refl _)).2
                have hl1' : seen1.reverse.length ≤ 16777216 := by rw [List.length_reverse]; simpa using hl1
                have RC := Lib.hid (reached_c (some al) c l Au cu (uses l x) D g hv wr.drew (Kd.C_below HCL.out BD.out) HF.out HBD.out (Kd.C_below hCu BD.out) hul (Kd.C_below HH.out BD.out) HHN.out seen1 miss1 hwt)
                obtain ⟨s1, hs1⟩ : ∃ s1, s1 = seen1.reverse := ⟨_, rfl⟩
                rw [← hs1] at RC hl1'
                obtain ⟨r, hr⟩ : ∃ r : Bool, r = decide (x ∈ s1) := ⟨_, rfl⟩
                have HR := Lib.hid hr
                have HRO : Hid (onB l hv x = r) := Lib.hid (by
                  have h2 : x ∈ s1 ↔ OnC l hv x := by rw [hs1, List.mem_reverse]; exact hsp.1 x
                  cases h : onB l hv x with
                  | true => rw [hr, decide_eq_true (h2.2 (onB_true.1 h))]
                  | false => rw [hr, decide_eq_false (fun hm => by rw [onB_true.2 (h2.1 hm)] at h; cases h)])
                have q1 := (B.out.cell (p := ⟨(al.add (k * 2)).block, (al.add (k * 2)).off + 1, none⟩) (World.block_lt_of_cell? _ _ e2)).trans e2
                have HLT := Lib.hid (show ∀ (p : Addr) (v : Value), wr.cell? p = some v → ∀ w', Below wr.heap.size wr w' → w'.cell? p = some v from fun p v h w' hb => (hb.cell (World.block_lt_of_cell? _ _ h)).trans h)
                have HLT2 := Lib.hid (show ∀ w', Below wr.heap.size wr w' → w'.cell? (a2.add i) = some (.string x) ∧ w'.cell? ⟨(al.add (k * 2)).block, (al.add (k * 2)).off + 1, none⟩ = some (.slice Au (uses l x).length cu) from fun w' hb => ⟨HLT.out _ _ ex _ hb, HLT.out _ _ q1 _ hb⟩)
                have HFV := Lib.hid hfv
                have HKL := Lib.hid hk
                have hki : (k : Int) < (l.length : Int) := by omega
                clear hfv hnm huo hus e1 e2 hCu hwt hsp hl1 hs1 hr hkx hk
                go_wp2_with fail
                go_region_held3 (fun w' => w'.cell? (a2.add i) = some (.string x) ∧ w'.cell? ⟨(al.add (k * 2)).block, (al.add (k * 2)).off + 1, none⟩ = some (.slice Au (uses l x).length cu)) (exact HLT2.out _ (by first | exact BDr.out | exact B11.out)) (first
                  | (go_at_call 27; with_reducible refine FC.out.mono ?_; rintro en wx ⟨rfl, hwx⟩; rw [hwx, HFV.out]; clear hwx)
                  | (go_at_call 26; with_reducible refine RC.out.mono ?_; rintro en w9 ⟨v9, rfl, o9, b9⟩; obtain ⟨A9, c9, rfl⟩ := OwnS.slice o9; have B11 := Lib.hid (BDr.out.trans (b9.mono BDr.out.size)); have HC := Lib.hid (has_c A9 c9 s1 x w9 (OwnS.reads o9).1 hl1'); rw [← HR.out] at HC; clear b9 o9)
                  | (go_at_call 28; with_reducible refine HC.out.mono ?_; rintro en wx ⟨rfl, hwx⟩; rw [hwx]; clear hwx))
                all_goals
                  have O9 := Lib.hid (OwnS.below O.out B11.out)
                  have OA9 := Lib.hid (OwnS.below OA.out B11.out)
                  have B9 := Lib.hid (B.out.trans (B11.out.mono B.out.size))
                  have ex9 := (HLT2.out _ B11.out).1
                  clear RC FC HC BD BDr HLT HLT2 B11 q1 ex
                  cases r
                  · have hF2 : Hid ((all.take (i + 1)).filter (onB l hv) = Bk) := Lib.hid (by rw [HFS.out, HRO.out]; simp)
                    go_wp2_with fail
                    go_roundg (gk - 1)
                    case measure => have := HI.out; omega
                    case rel => exact ⟨i + 1, Bk, Ab, cb, (by simp), rfl, ⟨by have := HI.out; omega, hF2.out.symm⟩, ⟨O9.out⟩, ⟨OA9.out⟩, ⟨DJ.out⟩, ⟨B9.out⟩⟩
                  · have hF2 : Hid ((all.take (i + 1)).filter (onB l hv) = Bk ++ [x]) := Lib.hid (by rw [HFS.out, HRO.out]; rfl)
                    go_wp2_with (first
                      | ((with_reducible refine gate_builtin (b := .append) (xs := #[.tmp 76, .tmp 81]) rfl ?_); at_builtin; go_loud (refine Kd.R_append Kd.string (w0 := w9) (W := w9) w.heap.size rfl (.tmp 76) (.tmp 81) 23 9 (.string ByteArray.empty) 16 rfl (by kernel_rfl) info9m rfl (by decide) (by decide) (.slice Ab Bk.length cb) Bk x [.string x] (fun _ => True) (fun _ => False) rfl rfl rfl (fun _ h => h.elim) (fun _ _ => trivial) (Kd.R_of_own O9.out (fun _ _ => trivial)) (Below.refl _ _) B9.out.size (by omega) ?_); intro v7 w7 r7 b7 g7 at7
                         obtain ⟨A7, c7, rfl⟩ := Kd.R_slice r7
                         have O7 := Lib.hid (show OwnS w7 w.heap.size (.slice A7 (Bk ++ [x]).length c7) (Bk ++ [x]) from Kd.own_of_R r7)
                         have OA7 := Lib.hid (show OwnS w7 w.heap.size (.slice (some a2) all.length c2) all from World.ownsRow.kept OA9.out g7 (.inr (fun e => DJ.out a2.block rfl e.symm)))
                         have DJ7 : Hid (∀ b, (Value.slice (some a2) all.length c2).ownBlock = some b → (Value.slice A7 (Bk ++ [x]).length c7).ownBlock ≠ some b) := Lib.hid (fun b hb hm => by
                           rcases at7 with h | ⟨b', h, hge⟩
                           · exact DJ.out b hb (h.symm.trans hm)
                           · rw [h] at hm
                             injection hm with hm
                             have := (World.ownsRow.lt OA9.out b hb).2
                             omega)
                         have B7 := Lib.hid (B9.out.trans b7)
                         clear r7 b7 g7 at7)
                      | fail)
                    go_roundg (gk - 1)
                    case measure => have := HI.out; omega
                    case rel => exact ⟨i + 1, Bk ++ [x], A7, c7, (by simp), (by simp), ⟨by have := HI.out; omega, hF2.out.symm⟩, ⟨O7.out⟩, ⟨OA7.out⟩, ⟨DJ7.out⟩, ⟨B7.out⟩⟩
            · have hii : ¬ (i : Int) < (all.length : Int) := by omega
              have HMB := Lib.hid (show ∀ x, x ∈ Bk ↔ RW l wl hv x ∧ OnC l hv x from fun x => by
                have h := HBK.out
                rw [List.take_of_length_le (by omega)] at h
                rw [h, List.mem_filter, HSP.out x, onB_true])
              by_cases hbe : Bk = []
              · subst hbe
                have HNC := Lib.hid (show ∀ x, RW l wl hv x → ¬ OnC l hv x from fun x hx hn => by have := (HMB.out x).2 ⟨hx, hn⟩; cases this)
                clear HMB HBK
                have OA0 := Lib.hid OA.out
                have B0 := Lib.hid B.out
                go_wp2_with fail
                clear O OA DJ B HI
                go_loopg [13] all.length (fun mm ov wr => ∃ (od : List ByteArray) (Ao : Option Addr) (co : Nat), ov = .slice Ao od.length co ∧ Aside1 (od.length + mm = all.length ∧ OrdA l hv.reverse all od) ∧ Aside1 (OwnS wr w.heap.size (.slice Ao od.length co) od) ∧ Aside1 (OwnS wr w.heap.size (.slice A2 all.length c2) all) ∧ Aside1 (∀ b, (Value.slice A2 all.length c2).ownBlock = some b → (Value.slice Ao od.length co).ownBlock ≠ some b) ∧ Aside1 (Below w.heap.size w wr))
                case atStart => exact ⟨[], none, 0, rfl, ⟨by simp, OrdA.nil _ _ _⟩, ⟨World.ownsRow_nil _ _ _ _⟩, ⟨OA0.out⟩, ⟨fun b _ h => by cases h⟩, ⟨B0.out⟩⟩
                case round =>
                  obtain ⟨od, Ao, co, rfl, ⟨hodl, hord⟩, ⟨hO⟩, ⟨hO2⟩, ⟨hDJ⟩, ⟨hB⟩⟩ := hrel
                  have HOL := Lib.hid hodl
                  have HORD := Lib.hid hord
                  have OO := Lib.hid hO
                  have OA := Lib.hid hO2
                  have DO := Lib.hid hDJ
                  have B := Lib.hid hB
                  have hol : od.length ≤ 16777216 := by omega
                  have holi : (od.length : Int) ≤ 16777216 := by omega
                  clear hodl hord hO hO2 hDJ hB OA0 B0
                  by_cases hlt : od.length < all.length
                  · have hlti : (od.length : Int) < (all.length : Int) := by omega
                    have HMAY := Lib.hid (may_some HSP.out HNC.out HND.out HORD.out hlt)
                    have HSN := Lib.hid (may_snoc HSP.out HNC.out HND.out HORD.out hlt)
                    have OO0 := Lib.hid OO.out
                    have OA0 := Lib.hid OA.out
                    have DO0 := Lib.hid DO.out
                    have B0 := Lib.hid B.out
                    have HOL0 := Lib.hid HOL.out
                    go_wp2_with fail
                    clear OO OA DO B HOL
                    obtain ⟨go, hgo⟩ : ∃ go, go = gk := ⟨_, rfl⟩
                    subst hgo
                    go_loopg [14, 15] all.length (fun mm mv iv wz => ∃ (i : Nat) (Mk : List ByteArray) (Am : Option Addr) (cm : Nat), iv = .int .i64 i ∧ mv = .slice Am Mk.length cm ∧ Aside1 (i + mm = all.length ∧ Mk = (all.take i).filter (mayB l hv od)) ∧ Aside1 (OwnS wz w.heap.size (.slice Am Mk.length cm) Mk) ∧ Aside1 (OwnS wz w.heap.size (.slice A2 all.length c2) all) ∧ Aside1 (OwnS wz w.heap.size (.slice Ao od.length co) od) ∧ Aside1 (∀ b, (Value.slice A2 all.length c2).ownBlock = some b → (Value.slice Am Mk.length cm).ownBlock ≠ some b) ∧ Aside1 (∀ b, (Value.slice Ao od.length co).ownBlock = some b → (Value.slice Am Mk.length cm).ownBlock ≠ some b) ∧ Aside1 (Below w.heap.size w wz))
                    case atStart => exact ⟨0, [], none, 0, rfl, rfl, ⟨by omega, by simp⟩, ⟨World.ownsRow_nil _ _ _ _⟩, ⟨OA0.out⟩, ⟨OO0.out⟩, ⟨fun b _ h => by cases h⟩, ⟨fun b _ h => by cases h⟩, ⟨B0.out⟩⟩
                    case round =>
                      obtain ⟨i, Mk, Am, cm, rfl, rfl, ⟨hi, hMk⟩, ⟨hO⟩, ⟨hO2⟩, ⟨hO3⟩, ⟨hDJ⟩, ⟨hDJ2⟩, ⟨hB⟩⟩ := hrel
                      have HI := Lib.hid hi
                      have HMK := Lib.hid hMk
                      have O := Lib.hid hO
                      have OA := Lib.hid hO2
                      have OO := Lib.hid hO3
                      have DJ := Lib.hid hDJ
                      have DM := Lib.hid hDJ2
                      have B := Lib.hid hB
                      have hmk : Mk.length ≤ 16777216 := by rw [hMk]; exact Nat.le_trans (List.length_filter_le _ _) (by rw [List.length_take]; omega)
                      clear hi hMk hO hO2 hO3 hDJ hDJ2 hB OO0 OA0 B0
                      have hil0 : (i : Int) ≤ 16777216 := by have := HI.out; omega
                      by_cases hil : i < all.length
                      · have hii : (i : Int) < (all.length : Int) := by omega
                        obtain ⟨a2, hA2, ex⟩ := name_at (OwnS.reads OA.out).1 rfl i hil
                        obtain ⟨x, hx⟩ : ∃ x, all[i] = x := ⟨_, rfl⟩
                        rw [hx] at ex
                        subst hA2
                        have FC := Lib.hid (find_c A c l x wr (Kd.C_below HCL.out B.out) (by have := HF.out.2.2; omega))
                        have hfs := filter_snoc (mayB l hv od) all i hil
                        rw [hx, ← HMK.out] at hfs
                        have HFS := Lib.hid hfs
                        have hkx := HKN.out x ((HSP.out x).1 (hx ▸ List.getElem_mem hil))
                        clear hfs hx
                        rcases findV_cases l x with ⟨hfv, hnm⟩ | ⟨k, hk, hfv, hnm⟩
                        · exact absurd (uses_none hnm) hkx
                        · have huo := usesOf_at HBD.out (List.getElem_mem hk)
                          rw [hnm] at huo
                          have hus : uses l x = (l[k]).2 := by unfold uses; rw [huo]; rfl
                          have hul : (uses l x).length ≤ 4194304 := Nat.le_trans (uses_len l x) HF.out.2.1
                          obtain ⟨al, Au, cu, hAl, e1, e2, hCu, hcu⟩ := vocab_at HCL.out rfl k hk
                          rw [← hus] at e2 hCu hcu
                          rw [hnm] at e1
                          subst hAl
                          have q0 := (B.out.cell (World.block_lt_of_cell? _ _ e1)).trans e1
                          have q1 := (B.out.cell (p := ⟨(al.add (k * 2)).block, (al.add (k * 2)).off + 1, none⟩) (World.block_lt_of_cell? _ _ e2)).trans e2
                          have H1 := Lib.hid (has_c Ao co od x wr (OwnS.reads OO.out).1 hol)
                          have RY := Lib.hid (ready_c x Au cu (uses l x) Ao D co g od hv wr (Kd.C_below hCu B.out) (OwnS.reads OO.out).1 (Kd.C_below HH.out B.out) hul hol (by have := HHN.out; omega))
                          obtain ⟨p, hp⟩ : ∃ p : Bool, p = decide (x ∈ od) := ⟨_, rfl⟩
                          obtain ⟨r, hr⟩ : ∃ r : Bool, r = rdyV (uses l x) od hv := ⟨_, rfl⟩
                          have HMB := Lib.hid (show mayB l hv od x = (!p && r) by rw [hp, hr]; rfl)
                          rw [← hp] at H1
                          rw [← hr] at RY
                          have HFV := Lib.hid hfv
                          have HKL := Lib.hid hk
                          have hki : (k : Int) < (l.length : Int) := by omega
                          clear hfv hnm huo hus e1 e2 hCu hp hr hkx hk
                          cases p
                          · cases r
                            · have hF2 : Hid ((all.take (i + 1)).filter (mayB l hv od) = Mk) := Lib.hid (by rw [HFS.out, HMB.out]; simp)
                              go_wp2_with (first
                                | (go_at_call 28; with_reducible refine H1.out.mono ?_; rintro en wx ⟨rfl, hwx⟩; rw [hwx]; clear hwx)
                                | (go_at_call 27; with_reducible refine FC.out.mono ?_; rintro en wx ⟨rfl, hwx⟩; rw [hwx, HFV.out]; clear hwx)
                                | (go_at_call 29; with_reducible refine RY.out.mono ?_; rintro en w9 ⟨rfl, b9⟩; have B11 := Lib.hid b9; clear b9)
                                | fail)
                              have O9 := Lib.hid (OwnS.below O.out B11.out)
                              have OA9 := Lib.hid (OwnS.below OA.out B11.out)
                              have OO9 := Lib.hid (OwnS.below OO.out B11.out)
                              have B9 := Lib.hid (B.out.trans (B11.out.mono B.out.size))
                              go_roundg (gk - 1)
                              case measure => have := HI.out; omega
                              case rel => exact ⟨i + 1, Mk, Am, cm, (by simp), rfl, ⟨by have := HI.out; omega, hF2.out.symm⟩, ⟨O9.out⟩, ⟨OA9.out⟩, ⟨OO9.out⟩, ⟨DJ.out⟩, ⟨DM.out⟩, ⟨B9.out⟩⟩
                            · have hF2 : Hid ((all.take (i + 1)).filter (mayB l hv od) = Mk ++ [x]) := Lib.hid (by rw [HFS.out, HMB.out]; rfl)
                              go_wp2_with (first
                                | (go_at_call 28; with_reducible refine H1.out.mono ?_; rintro en wx ⟨rfl, hwx⟩; rw [hwx]; clear hwx)
                                | (go_at_call 27; with_reducible refine FC.out.mono ?_; rintro en wx ⟨rfl, hwx⟩; rw [hwx, HFV.out]; clear hwx)
                                | (go_at_call 29; with_reducible refine RY.out.mono ?_; rintro en w9 ⟨rfl, b9⟩; have B11 := Lib.hid b9
                                   have O9 := Lib.hid (OwnS.below O.out b9)
                                   have OA9 := Lib.hid (OwnS.below OA.out b9)
                                   have OO9 := Lib.hid (OwnS.below OO.out b9)
                                   have B9 := Lib.hid (B.out.trans (b9.mono B.out.size))
                                   have ex9 := (b9.cell (World.block_lt_of_cell? _ _ ex)).trans ex
                                   clear b9)
                                | ((with_reducible refine gate_builtin (b := .append) (xs := #[.tmp 120, .tmp 125]) rfl ?_); at_builtin; go_loud (refine Kd.R_append Kd.string (w0 := w9) (W := w9) w.heap.size rfl (.tmp 120) (.tmp 125) 23 9 (.string ByteArray.empty) 16 rfl (by kernel_rfl) info9m rfl (by decide) (by decide) (.slice Am Mk.length cm) Mk x [.string x] (fun _ => True) (fun _ => False) rfl rfl rfl (fun _ h => h.elim) (fun _ _ => trivial) (Kd.R_of_own O9.out (fun _ _ => trivial)) (Below.refl _ _) B9.out.size (by omega) ?_); intro v7 w7 r7 b7 g7 at7
                                   obtain ⟨A7, c7, rfl⟩ := Kd.R_slice r7
                                   have O7 := Lib.hid (show OwnS w7 w.heap.size (.slice A7 (Mk ++ [x]).length c7) (Mk ++ [x]) from Kd.own_of_R r7)
                                   have OA7 := Lib.hid (show OwnS w7 w.heap.size (.slice (some a2) all.length c2) all from World.ownsRow.kept OA9.out g7 (.inr (fun e => DJ.out a2.block rfl e.symm)))
                                   have OO7 := Lib.hid (show OwnS w7 w.heap.size (.slice Ao od.length co) od from World.ownsRow.kept OO9.out g7 (kept_ne DM.out))
                                   have DJ7 : Hid (∀ b, (Value.slice (some a2) all.length c2).ownBlock = some b → (Value.slice A7 (Mk ++ [x]).length c7).ownBlock ≠ some b) := Lib.hid (fun b hb hm => by
                                     rcases at7 with h | ⟨b', h, hge⟩
                                     · exact DJ.out b hb (h.symm.trans hm)
                                     · rw [h] at hm
                                       injection hm with hm
                                       have := (World.ownsRow.lt OA9.out b hb).2
                                       omega)
                                   have DM7 : Hid (∀ b, (Value.slice Ao od.length co).ownBlock = some b → (Value.slice A7 (Mk ++ [x]).length c7).ownBlock ≠ some b) := Lib.hid (fun b hb hm => by
                                     rcases at7 with h | ⟨b', h, hge⟩
                                     · exact DM.out b hb (h.symm.trans hm)
                                     · rw [h] at hm
                                       injection hm with hm
                                       have := (World.ownsRow.lt OO9.out b hb).2
                                       omega)
                                   have B7 := Lib.hid (B9.out.trans b7)
                                   clear r7 b7 g7 at7)
                                | fail)
                              go_roundg (gk - 1)
                              case measure => have := HI.out; omega
                              case rel => exact ⟨i + 1, Mk ++ [x], A7, c7, (by simp), (by simp), ⟨by have := HI.out; omega, hF2.out.symm⟩, ⟨O7.out⟩, ⟨OA7.out⟩, ⟨OO7.out⟩, ⟨DJ7.out⟩, ⟨DM7.out⟩, ⟨B7.out⟩⟩
                          · have hF2 : Hid ((all.take (i + 1)).filter (mayB l hv od) = Mk) := Lib.hid (by rw [HFS.out, HMB.out]; simp)
                            go_wp2_with (first
                              | (go_at_call 28; with_reducible refine H1.out.mono ?_; rintro en wx ⟨rfl, hwx⟩; rw [hwx]; clear hwx)
                              | fail)
                            go_roundg (gk - 1)
                            case measure => have := HI.out; omega
                            case rel => exact ⟨i + 1, Mk, Am, cm, (by simp), rfl, ⟨by have := HI.out; omega, hF2.out.symm⟩, ⟨O.out⟩, ⟨OA.out⟩, ⟨OO.out⟩, ⟨DJ.out⟩, ⟨DM.out⟩, ⟨B.out⟩⟩
                      · have hii : ¬ (i : Int) < (all.length : Int) := by omega
                        obtain rfl : Mk = all.filter (mayB l hv od) := by have h := HMK.out; rwa [List.take_of_length_le (by omega)] at h
                        obtain ⟨z, hz⟩ : ∃ z, mnL (all.filter (mayB l hv od)) = z := ⟨_, rfl⟩
                        have hsn := HSN.out
                        have hl1 := least_c Am cm (all.filter (mayB l hv od)) wr (OwnS.reads O.out).1 HMAY.out hmk
                        rw [hz] at hsn hl1
                        have HSZ := Lib.hid hsn
                        have L1 := Lib.hid hl1
                        have DO := Lib.hid DO0.out
                        clear hsn hl1 hz HSN HMAY
                        go_wp2_with (first
                          | (go_at_call 25; with_reducible refine L1.out.mono ?_; rintro en wx ⟨rfl, hwx⟩; rw [hwx]; clear hwx)
                          | ((with_reducible refine gate_builtin (b := .append) (xs := #[.tmp 127, .tmp 130]) rfl ?_); at_builtin; go_loud (refine Kd.R_append Kd.string (w0 := wr) (W := wr) w.heap.size rfl (.tmp 127) (.tmp 130) 23 9 (.string ByteArray.empty) 16 rfl (by kernel_rfl) info9m rfl (by decide) (by decide) (.slice Ao od.length co) od z [.string z] (fun _ => True) (fun _ => False) rfl rfl rfl (fun _ h => h.elim) (fun _ _ => trivial) (Kd.R_of_own OO.out (fun _ _ => trivial)) (Below.refl _ _) B.out.size (by omega) ?_); intro v7 w7 r7 b7 g7 at7
                             obtain ⟨A7, c7, rfl⟩ := Kd.R_slice r7
                             have O7 := Lib.hid (show OwnS w7 w.heap.size (.slice A7 (od ++ [z]).length c7) (od ++ [z]) from Kd.own_of_R r7)
                             have OA7 := Lib.hid (show OwnS w7 w.heap.size (.slice A2 all.length c2) all from World.ownsRow.kept OA.out g7 (kept_ne DO.out))
                             have DJ7 : Hid (∀ b, (Value.slice A2 all.length c2).ownBlock = some b → (Value.slice A7 (od ++ [z]).length c7).ownBlock ≠ some b) := Lib.hid (fun b hb hm => by
                               rcases at7 with h | ⟨b', h, hge⟩
                               · exact DO.out b hb (h.symm.trans hm)
                               · rw [h] at hm
                                 injection hm with hm
                                 have := (World.ownsRow.lt OA.out b hb).2
                                 omega)
                             have B7 := Lib.hid (B.out.trans b7)
                             clear r7 b7 g7 at7)
                          | fail)
                        go_roundg (go - 1)
                        case measure => have := HOL0.out; omega
                        case rel => exact ⟨od ++ [z], A7, c7, (by simp), ⟨by have := HOL0.out; simp; omega, HSZ.out⟩, ⟨O7.out⟩, ⟨OA7.out⟩, ⟨DJ7.out⟩, ⟨B7.out⟩⟩
                  · have hlti : ¬ (od.length : Int) < (all.length : Int) := by omega
                    have HOK := Lib.hid (ord_res HBD.out HSP.out HKN.out HNC.out HORD.out hlt)
                    go_wp2_with fail
                    go_ret3
                    exact ⟨_, od, ByteArray.empty, 0, rfl, OO.out, HOK.out, B.out⟩
              · have hpos : 0 < Bk.length := List.length_pos_iff.2 hbe
                have L1 := Lib.hid (least_c Ab cb Bk wr (OwnS.reads O.out).1 hbe hbk)
                have HCY := Lib.hid (show Res l wl hv ([], mnL Bk, 15) from by
                  obtain ⟨h1, h2⟩ := mnL_spec hbe
                  obtain ⟨h3, h4⟩ := (HMB.out _).1 h1
                  exact .cycle _ HBD.out HKN.out h3 h4 (fun y hy hyc => h2 y ((HMB.out y).2 ⟨hy, hyc⟩)))
                clear hbe
                go_wp2_with (first
                  | (go_at_call 25; with_reducible refine L1.out.mono ?_; rintro en wx ⟨rfl, hwx⟩; rw [hwx]; clear hwx)
                  | fail)
                go_ret3
                exact ⟨_, ([], mnL Bk, 15), rfl, World.ownsRow_nil _ _ _ _, HCY.out, B.out⟩
        · have hpos : 0 < Bk.length := List.length_pos_iff.2 hbe
          have HBE := Lib.hid hbe
          have L1 := Lib.hid (least_c Ab cb Bk wr (OwnS.reads O.out).1 hbe hbk)
          clear hbe
          go_wp2_with (first
            | (go_at_call 25; with_reducible refine L1.out.mono ?_; rintro en wx ⟨rfl, hwx⟩; rw [hwx]; clear hwx)
            | fail)
          go_ret3
          exact ⟨_, ([], mnL Bk, 6), rfl, World.ownsRow_nil _ _ _ _, .none Bk HBD.out HBE.out HMB.out, B.out⟩
  · have LE : Hid (∀ (w1 : World) (A1 : Option Addr) (c1 : Nat), OwnS w1 w.heap.size (.slice A1 (bads l).length c1) (bads l) → Calls Try.prog 25 #[.slice A1 (bads l).length c1] w1 fun e w' => e = .returned (.string (mnL (bads l))) ∧ w' = w1) := Lib.hid (fun w1 A1 c1 h => least_c A1 c1 (bads l) w1 (OwnS.reads h).1 hbd hbl.out)
    have hpos : 0 < (bads l).length := List.length_pos_iff.2 hbd
    have hposi : (0 : Int) < ((bads l).length : Int) := by omega
    have HBD := Lib.hid hbd
    clear hbd
    go_enter Try.func13, Try.ntmps13
    go_wp2_with (first
      | (go_at_call 24; with_reducible refine TW.out.mono ?_; rintro en w1 ⟨v1, rfl, o1, b1⟩; obtain ⟨A1, c1, rfl⟩ := OwnS.slice o1; have L1 := Lib.hid (LE.out w1 A1 c1 o1); have B1 := Lib.hid b1; clear o1 b1)
      | (go_at_call 25; with_reducible refine L1.out.mono ?_; rintro en wx ⟨rfl, hwx⟩; rw [hwx]; clear hwx)
      | fail)
    go_ret3
    exact ⟨_, ([], mnL (bads l), 14), rfl, World.ownsRow_nil _ _ _ _, .twice HBD.out, B1.out⟩
end Go.Proofs.Ytlphpmdmlcphbaa.Or
