/- Seat E: OrderTurns, walked. -/
import Derived.Test.YtlphpmdmlcphbaaOr22
namespace Go.Proofs.Ytlphpmdmlcphbaa.Or
open Go Go.RowKit Go.Proofs.Ytlphpmdmlcphbaa.Mem Go.Proofs.YtlphpmdmlcphbaaW.PrintWords Go.Maps Go.Proofs.Ytlphpmdmlcphbaa.Om
set_option linter.unusedVariables false
set_option linter.unusedSimpArgs false
set_option maxRecDepth 100000
set_option maxHeartbeats 1000000
/-- A vocabulary whose list is another's. -/
abbrev Vs := ByteArray × SL
abbrev kVs : Kd Vs := Kd.pair Kd.string slc
/-- A list of vocabularies whose lists lie in w. -/
structure TW (w : World) (T : List Vs) (l : List Vo) : Prop where
  len : T.length = l.length
  at_ : ∀ j (hj : j < T.length) (hk : j < l.length), T[j].1 = l[j].1 ∧ T[j].2.2.1 = l[j].2.length ∧ l[j].2.length ≤ T[j].2.2.2 ∧ Kd.string.C w T[j].2.1 l[j].2.length l[j].2
theorem TW.nil (w : World) : TW w [] [] := ⟨rfl, fun j hj => absurd hj (Nat.not_lt_zero _)⟩
theorem TW.snoc {w : World} {T : List Vs} {l : List Vo} (h : TW w T l) (nm : ByteArray) (us : List ByteArray) (Au : Option Addr) (cu : Nat) (hc : us.length ≤ cu) (hC : Kd.string.C w Au us.length us) : TW w (T ++ [(nm, Au, us.length, cu)]) (l ++ [(nm, us)]) := by
  refine ⟨by simp [h.len], fun j hj hk => ?_⟩
  by_cases hjl : j < l.length
  · have hjT : j < T.length := by have := h.len; omega
    rw [List.getElem_append_left hjl, List.getElem_append_left hjT]
    exact h.at_ j hjT hjl
  · have : j = l.length := by simp at hk; omega
    subst this
    have e1 : (l ++ [(nm, us)])[l.length] = (nm, us) := by simp
    have e2 : (T ++ [((nm, Au, us.length, cu) : Vs)])[l.length] = (nm, Au, us.length, cu) := by simp [← h.len]
    rw [e1, e2]
    exact ⟨rfl, rfl, hc, hC⟩
theorem TW.reads {w w' : World} {T : List Vs} {l : List Vo} {A : Option Addr} (h : TW w T l) (hb : Below w.heap.size w w') (hC : kVs.C w' A T.length T) : kV.C w' A l.length l := by
  have hlen := h.len
  refine ⟨rfl, by have := hC.2.1; omega, fun hp => ?_⟩
  obtain ⟨ad, hA, hcell⟩ := hC.2.2 (by omega)
  refine ⟨ad, hA, fun j p hj => ?_⟩
  obtain ⟨hjl, rfl⟩ := List.getElem?_eq_some_iff.1 hj
  have hjT : j < T.length := by omega
  obtain ⟨c, hcl, hK, hc⟩ := hcell j T[j] (List.getElem?_eq_getElem hjT)
  obtain ⟨c0, c1, rfl, h0, h1⟩ := hK
  obtain rfl : c0 = [.string T[j].1] := h0
  obtain rfl : c1 = [sv T[j].2] := h1
  obtain ⟨q1, q2, q3, q4⟩ := h.at_ j hjT hjl
  refine ⟨[.string T[j].1] ++ [sv T[j].2], rfl, ⟨[.string T[j].1], [sv T[j].2], rfl, ?_, ⟨T[j].2.1, T[j].2.2.2, ?_, q3, Kd.C_below q4 hb⟩⟩, hc⟩
  · show [Value.string T[j].1] = [.string l[j].1]
    rw [q1]
  · show [sv T[j].2] = [.slice T[j].2.1 l[j].2.length T[j].2.2.2]
    rw [← q2]
theorem fine_reverse {l : List Vo} (h : Fine l) : Fine l.reverse := by
  refine ⟨fun v hv => h.1 v (List.mem_reverse.1 hv), ?_, by rw [List.length_reverse]; exact h.2.2⟩
  have : tot l.reverse = tot l := by unfold tot; rw [List.map_reverse, List.sum_reverse]
  rw [this]
  exact h.2.1
theorem info33s : (Try.prog.info? 33).map (fun i => (i.zero, i.size, i.bytes)) = some (some (.agg #[.string ByteArray.empty, .slice none 0 0]), 2, 40) := by kernel_rfl
theorem turns_c (A : Option Addr) (c : Nat) (l : List Vo) (B : Option Addr) (d : Nat) (wl : List ByteArray) (D : Option Addr) (g : Nat) (hv : List ByteArray) (w : World) (hC : kV.C w A l.length l) (hc : l.length ≤ c) (hF : Fine l)
    (hW : Kd.string.C w B wl.length wl) (hWn : Names wl) (hH : Kd.string.C w D hv.length hv) (hHn : Names hv) :
    Calls Try.prog 4 #[.slice A l.length c, .slice B wl.length d, .slice D hv.length g] w fun e w' => e = .returned (.bool true) ∧ Below w.heap.size w w' := by
  obtain ⟨⟨o, x, e⟩, hr, hR⟩ := sortV_res hF wl hv (by have := hWn.2; omega)
  obtain ⟨r', hr', hR'⟩ := sortV_res (fine_reverse hF) (wl.reverse ++ hv) hv (by have h1 := hWn.2; have h2 := hHn.2; simp; omega)
  rw [← hR.turn hR'] at hr'
  have hol : o.length ≤ 4194304 := by
    rcases hR.shape with ⟨_, _, h⟩ | ⟨h, _⟩
    · have := h.len; have := hF.2.2; omega
    · rw [h]; simp
  have HCL := Lib.hid hC
  have HF := Lib.hid hF
  have HW := Lib.hid hW
  have HWN := Lib.hid hWn
  have HH := Lib.hid hH
  have HHN := Lib.hid hHn
  have HR := Lib.hid hr
  have HR2 := Lib.hid hr'
  have AW := Lib.hid (awake_c w)
  have hll : (l.length : Int) ≤ 4194304 := by have := hF.2.2; omega
  have hwl : (wl.length : Int) ≤ 1048576 := by have := hWn.2; omega
  clear hC hc hF hW hWn hH hHn hr hR hr' hR'
  go_enter Try.func4, Try.ntmps4
  go_wp2_with (first
    | (go_at_call 7; with_reducible refine AW.out.mono ?_; rintro en w0 ⟨rfl, b0⟩; have B0 := Lib.hid b0; have VO := Lib.hid (vocabs_c A c l w0 (Kd.C_below HCL.out b0) HF.out); clear b0)
    | (go_at_call 9; with_reducible refine VO.out.mono ?_; rintro en w1 ⟨A1, c1, rfl, r1, b1⟩; have R1 := Lib.hid r1; have B1 := Lib.hid (B0.out.trans (b1.mono B0.out.size)); have OW := Lib.hid (own_c B d wl w1 (Kd.C_below HW.out B1.out) (by have := HWN.out.2; omega)); clear r1 b1)
    | (go_at_call 10; with_reducible refine OW.out.mono ?_; rintro en w2 ⟨v2, rfl, o2, b2⟩; obtain ⟨A2, c2, rfl⟩ := OwnS.slice o2; have O2 := Lib.hid o2; have BB2 := Lib.hid b2; have B2 := Lib.hid (B1.out.trans (b2.mono B1.out.size)); have OH := Lib.hid (own_c D g hv w2 (Kd.C_below HH.out B2.out) (by have := HHN.out.2; omega)); clear o2 b2)
    | (go_at_call 10; with_reducible refine OH.out.mono ?_; rintro en w3 ⟨v3, rfl, o3, b3⟩; obtain ⟨A3, c3, rfl⟩ := OwnS.slice o3; have B3 := Lib.hid (B2.out.trans (b3.mono B2.out.size))
       have SO := Lib.hid (Sort_c A1 c1 l A2 c2 wl A3 c3 hv w3 ((VC_of_R R1.out).1.below (BB2.out.trans (b3.mono BB2.out.size))) (VC_of_R R1.out).2 HF.out (Kd.C_below (OwnS.reads O2.out).1 b3) (OwnS.reads O2.out).2.1 (OwnS.reads O2.out).2.2 ⟨HWN.out.1, by have := HWN.out.2; omega⟩ (OwnS.reads o3).1 (OwnS.reads o3).2.1 ⟨HHN.out.1, by have := HHN.out.2; omega⟩ _ _ _ HR.out)
       clear o3 b3)
    | (go_at_call 8; with_reducible refine SO.out.mono ?_; rintro en w4 ⟨v4, rfl, o4, b4⟩; obtain ⟨A4, c4, rfl⟩ := OwnS.slice o4; have O4 := Lib.hid o4; have B4 := Lib.hid (B3.out.trans (b4.mono B3.out.size)); clear o4 b4)
    | fail)
  go_loopg [10, 11] (l.length + 1) (fun mm tv iv wr => ∃ (q : Nat) (T : List Vs) (At : Option Addr) (ct : Nat), iv = .int .i64 ((q : Int) - 1) ∧ tv = .slice At T.length ct ∧ Aside1 (mm = q + 1 ∧ q ≤ l.length ∧ TW w T (l.drop q).reverse) ∧ Aside1 (kVs.R 33 wr w4.heap.size (fun _ => True) (.slice At T.length ct) T) ∧ Aside1 (Below w4.heap.size w4 wr))
  case atStart => exact ⟨l.length, [], none, 0, rfl, rfl, ⟨rfl, Nat.le_refl _, by rw [List.drop_length]; exact TW.nil w⟩, ⟨Kd.R_nil _ _ _ _ _⟩, ⟨Below.refl _ _⟩⟩
  case round =>
    obtain ⟨q, T, At, ct, rfl, rfl, ⟨hq, hql, hT⟩, ⟨hRR⟩, ⟨hB⟩⟩ := hrel
    have HQ := Lib.hid hq
    have HQL := Lib.hid hql
    have HT := Lib.hid hT
    have RT := Lib.hid hRR
    have B5 := Lib.hid hB
    clear hq hT hRR hB
    by_cases h0 : q = 0
    · have HQ0 := Lib.hid h0
      subst h0
      have hneg : ¬ ((0 : Int) ≤ ((0 : Nat) : Int) - 1) := by omega
      have hT2 : TW w T l.reverse := by have h := HT.out; rwa [List.drop_zero] at h
      have HTL := Lib.hid hT2.len
      have HT2 := Lib.hid hT2
      have KT := Lib.hid (Kd.R_reads' RT.out)
      have B6 := Lib.hid (B4.out.trans (B5.out.mono B4.out.size))
      obtain ⟨w5, hw5⟩ : ∃ w5, w5 = wr := ⟨_, rfl⟩
      subst hw5
      clear hT2 HT RT
      go_wp2_with fail
      go_loopg [12, 13] (wl.length + 1) (fun mm bv iv wr => ∃ (q : Nat) (Bk : List ByteArray) (Ab : Option Addr) (cb : Nat), iv = .int .i64 ((q : Int) - 1) ∧ bv = .slice Ab Bk.length cb ∧ Aside1 (mm = q + 1 ∧ q ≤ wl.length ∧ (wl.drop q).reverse = Bk) ∧ Aside1 (OwnS wr w5.heap.size (.slice Ab Bk.length cb) Bk) ∧ Aside1 (Below w5.heap.size w5 wr))
      case atStart => exact ⟨wl.length, [], none, 0, rfl, rfl, ⟨rfl, Nat.le_refl _, by rw [List.drop_length]; rfl⟩, ⟨World.ownsRow_nil _ _ _ _⟩, ⟨Below.refl _ _⟩⟩
      case round =>
        obtain ⟨q, Bk, Ab, cb, rfl, rfl, ⟨hq, hqw, hBk⟩, ⟨hO⟩, ⟨hB⟩⟩ := hrel
        have HQ2 := Lib.hid hq
        have HBK := Lib.hid hBk
        have O := Lib.hid hO
        have B7 := Lib.hid hB
        have B8 := Lib.hid (B6.out.trans (hB.mono B6.out.size))
        clear hq hBk hO hB
        by_cases h0 : q = 0
        · subst h0
          have hneg2 : ¬ ((0 : Int) ≤ ((0 : Nat) : Int) - 1) := by omega
          have hbw : wl.reverse = Bk := by rw [← HBK.out, List.drop_zero]
          have HBW := Lib.hid hbw
          have hbl : Bk.length ≤ 1048576 := by rw [← hbw, List.length_reverse]; exact HWN.out.2
          have hvl : hv.length ≤ 1048576 := HHN.out.2
          have HCV := Lib.hid (Kd.C_below HH.out B8.out)
          clear hbw
          go_wp2_with (first
            | ((with_reducible refine gate_builtin (b := .append) (xs := #[.tmp 58, .tmp 59]) rfl ?_); at_builtin; go_loud (refine Kd.R_append_rows Kd.string (w0 := w5) (W := wr) w5.heap.size rfl (.tmp 58) (.tmp 59) 23 9 (.string ByteArray.empty) 16 rfl (by kernel_rfl) info9m rfl (by decide) (by decide) (.slice Ab Bk.length cb) Bk hv D hv.length g (fun _ => True) (fun _ => False) rfl rfl (Kd.R_of_own O.out (fun _ _ => trivial)) HCV.out (fun _ _ h => h) (fun _ h => h.elim) (fun _ _ => trivial) B7.out B7.out.size (by omega) ?_); intro v6 w6 r6 b6 g6 at6
               obtain ⟨A6, c6, rfl⟩ := Kd.R_slice r6
               have o6 : OwnS w6 w5.heap.size (.slice A6 (Bk ++ hv).length c6) (Bk ++ hv) := Kd.own_of_R r6
               obtain ⟨bk, hbk⟩ : ∃ bk, bk = Bk ++ hv := ⟨_, rfl⟩
               rw [← hbk] at o6 ⊢
               have O6 := Lib.hid o6
               have B9 := Lib.hid b6
               have B10 := Lib.hid (B6.out.trans (b6.mono B6.out.size))
               have HBKE := Lib.hid (show bk = wl.reverse ++ hv by rw [hbk, HBW.out])
               have vo := vocabs_c At ct l.reverse w6 (HT2.out.reads B10.out (Kd.C_below KT.out.2.2 b6)) (fine_reverse HF.out)
               rw [← HTL.out] at vo
               have VO2 := Lib.hid vo
               clear r6 b6 g6 at6 o6 hbk vo)
            | (go_at_call 9; with_reducible refine VO2.out.mono ?_; rintro en w7 ⟨A7, c7, rfl, r7, b7⟩; have R7 := Lib.hid r7; have BB7 := Lib.hid b7; have B11 := Lib.hid (B10.out.trans (b7.mono B10.out.size)); have OH2 := Lib.hid (own_c D g hv w7 (Kd.C_below HH.out B11.out) (by omega)); clear r7 b7)
            | (go_at_call 10; with_reducible refine OH2.out.mono ?_; rintro en w8 ⟨v8, rfl, o8, b8⟩; obtain ⟨A8, c8, rfl⟩ := OwnS.slice o8; have B12 := Lib.hid (B11.out.trans (b8.mono B11.out.size))
               have B13W := Lib.hid (((B5.out.trans (B9.out.mono B5.out.size)).trans (BB7.out.mono (Nat.le_trans B5.out.size B9.out.size))).trans (b8.mono (Nat.le_trans (Nat.le_trans B5.out.size B9.out.size) BB7.out.size)))
               have hbkl : bk.length ≤ 4194304 := by have h := congrArg List.length HBKE.out; have := HWN.out.2; simp at h; omega
               have hbks : ∀ u ∈ bk, u.size ≤ maxLen := fun u hu => by
                 rw [HBKE.out] at hu
                 rcases List.mem_append.1 hu with h | h
                 · exact HWN.out.1 u (List.mem_reverse.1 h)
                 · exact HHN.out.1 u h
               have vr : VC w8 A7 l.reverse ∧ l.reverse.length ≤ c7 := by
                 have h := R7.out
                 rw [HTL.out] at h
                 exact ⟨(VC_of_R h).1.below b8, (VC_of_R h).2⟩
               have so := Sort_c A7 c7 l.reverse A6 c6 bk A8 c8 hv w8 vr.1 vr.2 (fine_reverse HF.out) (Kd.C_below (OwnS.reads O6.out).1 (BB7.out.trans (b8.mono BB7.out.size))) (OwnS.reads O6.out).2.1 (OwnS.reads O6.out).2.2 ⟨hbks, hbkl⟩ (OwnS.reads o8).1 (OwnS.reads o8).2.1 ⟨HHN.out.1, by omega⟩ _ _ _ (by rw [HBKE.out]; exact HR2.out)
               rw [← HTL.out] at so
               have SO2 := Lib.hid so
               clear o8 b8 hbkl hbks vr so)
            | (go_at_call 8; with_reducible refine SO2.out.mono ?_; rintro en w9 ⟨v9, rfl, o9, b9⟩; obtain ⟨A9, c9, rfl⟩ := OwnS.slice o9; have B13 := Lib.hid (B12.out.trans (b9.mono B12.out.size))
               have SA := Lib.hid (same_c A4 A9 c4 c9 o o w9 (Kd.C_below (OwnS.reads O4.out).1 (B13W.out.trans (b9.mono B13W.out.size))) (OwnS.reads o9).1 (by omega))
               clear o9 b9)
            | (go_at_call 12; with_reducible refine SA.out.mono ?_; rintro en w10 ⟨rfl, b10⟩; have B14 := Lib.hid (B13.out.trans (b10.mono B13.out.size)); clear b10)
            | fail)
          go_ret
          exact ⟨rfl, B14.out⟩
        · obtain ⟨q, rfl⟩ : ∃ p, q = p + 1 := ⟨q - 1, by omega⟩
          have hqn : (0 : Int) ≤ (((q + 1 : Nat) : Int) - 1) := by omega
          have hqe : (((q + 1 : Nat) : Int) - 1) = (q : Int) := by omega
          rw [hqe] at hqn ⊢
          clear h0 hqe
          have hqi : (q : Int) < (wl.length : Int) := by omega
          have hql2 : q < wl.length := by omega
          have hql3 : (q : Int) ≤ 1048576 := by omega
          obtain ⟨aw, hAw, ex⟩ := name_at (Kd.C_below HW.out B8.out) rfl q hql2
          obtain ⟨y, hy⟩ : ∃ y, wl[q]'hql2 = y := ⟨_, rfl⟩
          rw [hy] at ex
          subst hAw
          have HY := Lib.hid hy
          clear hy
          go_wp2_with (first
            | ((with_reducible refine gate_builtin (b := .append) (xs := #[.tmp 51, .tmp 56]) rfl ?_); at_builtin; go_loud (refine Kd.R_append Kd.string (w0 := w5) (W := wr) w5.heap.size rfl (.tmp 51) (.tmp 56) 23 9 (.string ByteArray.empty) 16 rfl (by kernel_rfl) info9m rfl (by decide) (by decide) (.slice Ab Bk.length cb) Bk y [.string y] (fun _ => True) (fun _ => False) rfl rfl rfl (fun _ h => h.elim) (fun _ _ => trivial) (Kd.R_of_own O.out (fun _ _ => trivial)) B7.out B7.out.size (by have h := congrArg List.length HBK.out; have := HWN.out.2; simp at h; omega) ?_); intro v6 w6 r6 b6 g6 at6
               obtain ⟨A6, c6, rfl⟩ := Kd.R_slice r6
               have O6 := Lib.hid (show OwnS w6 w5.heap.size (.slice A6 (Bk ++ [y]).length c6) (Bk ++ [y]) from Kd.own_of_R r6)
               have B9 := Lib.hid b6
               clear r6 b6 g6 at6)
            | fail)
          go_roundg (gk - 1)
          case measure => have := HQ2.out; omega
          case rel => exact ⟨q, Bk ++ [y], A6, c6, (by first | rfl | simp), (by first | rfl | simp), ⟨by have := HQ2.out; omega, by omega, by rw [List.drop_eq_getElem_cons hql2, List.reverse_cons, HBK.out, HY.out]⟩, ⟨O6.out⟩, ⟨B9.out⟩⟩
    · obtain ⟨q, rfl⟩ : ∃ p, q = p + 1 := ⟨q - 1, by omega⟩
      have hqn : (0 : Int) ≤ (((q + 1 : Nat) : Int) - 1) := by omega
      have hqe : (((q + 1 : Nat) : Int) - 1) = (q : Int) := by omega
      rw [hqe] at hqn ⊢
      clear h0 hqe
      have hqi : (q : Int) < (l.length : Int) := by omega
      have hql2 : q < l.length := by omega
      obtain ⟨al, Au, cu, hAl, e1, e2, hCu, hcu⟩ := vocab_at HCL.out rfl q hql2
      subst hAl
      obtain ⟨nm, us, hlk⟩ : ∃ nm us, l[q]'hql2 = (nm, us) := ⟨_, _, rfl⟩
      have hql3 : (q : Int) ≤ 4194304 := by omega
      have HTL := Lib.hid HT.out.len
      rw [hlk] at e1 e2 hCu hcu
      dsimp only at e1 e2 hCu hcu
      have B6 := Lib.hid (B4.out.trans (B5.out.mono B4.out.size))
      have e1w := (B6.out.cell (World.block_lt_of_cell? _ _ e1)).trans e1
      have e2w := (B6.out.cell (p := ⟨(al.add (q * 2)).block, (al.add (q * 2)).off + 1, none⟩) (World.block_lt_of_cell? _ _ e2)).trans e2
      have HT2 := Lib.hid (HT.out.snoc nm us Au cu hcu hCu)
      have HLK := Lib.hid hlk
      clear e1 e2 hCu hcu hlk
      go_wp2_with (first
        | ((with_reducible refine gate_builtin (b := .append) (xs := #[.tmp 37, .tmp 42]) rfl ?_); at_builtin; go_loud (refine Kd.R_append kVs (w0 := w4) (W := wr) w4.heap.size rfl (.tmp 37) (.tmp 42) 22 33 (.agg #[.string ByteArray.empty, .slice none 0 0]) 40 rfl (by kernel_rfl) info33s rfl (by decide) (by decide) (.slice At T.length ct) T ((nm, Au, us.length, cu) : Vs) [.string nm, .slice Au us.length cu] (fun _ => True) (fun _ => False) rfl rfl ⟨[.string nm], [.slice Au us.length cu], rfl, rfl, rfl⟩ (fun _ h => h.elim) (fun _ _ => trivial) RT.out B5.out B5.out.size (by have := HTL.out; simp at this; omega) ?_); intro v5 w5 r5 b5 g5 at5
           obtain ⟨A5, c5, rfl⟩ := Kd.R_slice r5
           have R5 := Lib.hid r5
           have B7 := Lib.hid b5
           clear r5 b5 g5 at5)
        | fail)
      go_roundg (gk - 1)
      case measure => have := HQ.out; omega
      case rel => exact ⟨q, T ++ [(nm, Au, us.length, cu)], A5, c5, (by first | rfl | simp), (by first | rfl | simp), ⟨by have := HQ.out; omega, by omega, by rw [List.drop_eq_getElem_cons hql2, List.reverse_cons, HLK.out]; exact HT2.out⟩, ⟨R5.out⟩, ⟨B7.out⟩⟩
end Go.Proofs.Ytlphpmdmlcphbaa.Or
