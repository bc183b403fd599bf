/- Seat A: PagesKeeps: the walk. -/
import Derived.Test.YtdpoifaeimmdmaaPgKp1
import Derived.Deep.DeepMust
import Derived.Outline
import Derived.Deep.QuietTactic
import Derived.BigQuiet
namespace Go.Proofs.Ytdpoifaeimmdmaa.PKp
open Go.RowKit Go.Proofs.Ytdpoifaeimmdmaa.Mem Go.Proofs.YtdpoifaeimmdmaaW.PrintWords Go.Proofs.YtdpoifaeimmdmaaW.PrintLast Go.Proofs.YtdpoifaeimmdmaaW.PrintMore
open Go.Proofs.Ytdpoifaeimmdmaa.Hand Go.Proofs.Ytdpoifaeimmdmaa.Pp Go.Proofs.Ytdpoifaeimmdmaa.ApG Go.Proofs.Ytdpoifaeimmdmaa.Dk
set_option linter.unusedVariables false
set_option linter.unusedSimpArgs false
set_option maxRecDepth 100000
theorem info5s : (Try.prog.info? 5).map (fun i => (i.zero, i.size, i.bytes)) = some (some (.int .u8 0), 1, 1) := by kernel_rfl
theorem info4s : (Try.prog.info? 4).map (fun i => (i.zero, i.size, i.bytes)) = some (some (.bool false), 1, 1) := by kernel_rfl
theorem info22s : (Try.prog.info? 22).map (fun i => (i.zero, i.size, i.bytes)) = some (some (.slice none 0 0), 1, 24) := by kernel_rfl
theorem cutB (A : Option Addr) (n c j : Nat) (hj : j ≤ n) (hc : n ≤ c) : ∀ W : World, (Instr.slice 22 (.slice A n c) none (some (.int .i64 (j : Int))) none).run Try.prog W = .ok (.slice A j c) W := by
  obtain ⟨i, hi, hz⟩ := Option.map_eq_some_iff.1 info5s
  intro W
  have := cut_to (P := Try.prog) 22 5 .i64 Try.underlying22 hi A n c (j : Int) (by omega) (by omega) hc W
  rw [this, Int.toNat_natCast]
theorem cutU (A : Option Addr) (n c j : Nat) (hj : j ≤ n) (hc : n ≤ c) : ∀ W : World, (Instr.slice 37 (.slice A n c) none (some (.int .i64 (j : Int))) none).run Try.prog W = .ok (.slice A j c) W := by
  obtain ⟨i, hi, hz⟩ := Option.map_eq_some_iff.1 info4s
  intro W
  have := cut_to (P := Try.prog) 37 4 .i64 Try.underlying37 hi A n c (j : Int) (by omega) (by omega) hc W
  rw [this, Int.toNat_natCast]
theorem start_two (a b : SL) : ApG.start [a, b] [a, b].length = 0 + a.2.1 + 9 + b.2.1 + 9 := rfl
set_option maxHeartbeats 16000000 in
theorem pkeeps_c (id : Int) (A1 : Option Addr) (c1 : Nat) (D : List Int) (A2 : Option Addr) (c2 : Nat) (U : List Bool) (n : Int) (w : World) (hid : 0 ≤ id ∧ id < 4294967296) (hC1 : kB.C w A1 D.length D) (hc1 : D.length ≤ c1) (hC2 : Kd.bool.C w A2 U.length U) (hc2 : U.length ≤ c2)
    (hD : ∀ x ∈ D, 0 ≤ x ∧ x < 256) (hDl : D.length ≤ 1048576) (hUl : U.length ≤ 1048576) :
    Calls Try.prog 9 #[.int .u32 id, .slice A1 D.length c1, .slice A2 U.length c2, .int .i64 n] w fun e w' => e = .returned (.bool true) ∧ Below w.heap.size w w' := by
  have HC1 := Lib.hid hC1; have HC2 := Lib.hid hC2; have HD := Lib.hid hD; have HId := Lib.hid hid
  clear hC1 hC2 hD hid
  go_enter Try.func9, Try.ntmps9
  go_wp2_with fail
  (go_at_call 22; refine (awake_p w).mono ?_; rintro e w1 ⟨rfl, b1⟩; have K1 := Lib.hid b1; clear b1)
  go_wp2_with fail
  (go_at_call 25; refine (own_p A1 c1 D w1 (Kd.C_below HC1.out K1.out) hc1 hDl).mono ?_; rintro e w2 ⟨v2, rfl, r2, b2⟩; have HR2 := Lib.hid r2; have B2 := Lib.hid b2; clear r2 b2)
  go_wp2_with (first
    | ((with_reducible refine gate_dst (N := 31) rfl ?_); refine Kd.R_lit kB (w0 := w2) w2.heap.size 5 ?hg (N := 31) ?hd (xs := [71, 72]) (inner := [.int .u8 71, .int .u8 72]) (ok := fun _ => True) (okp := fun _ => True) ?hr ?hp (fun _ hk => hk) trivial (Below.refl _ _) (Nat.le_refl _) (by simp) ?_; (case hd => rfl); (case hg => rfl); (case hr => first | (go_simp; done) | (go_simp; rfl)); (case hp => exact Kd.reps_scalar [71, 72]); intro v3 w3 ho hb hg hat; obtain ⟨A3, c3, rfl, hc3, hC3⟩ := Kd.R_reads ho; have HC3 := Lib.hid hC3; have B3 := Lib.hid hb; clear ho hb hg hat hC3)
    | ((with_reducible refine gate_builtin (b := .append) (xs := #[.tmp 30, .tmp 31]) rfl ?_); at_builtin; refine Kd.R_append_rows kB (w0 := w3) w1.heap.size rfl (.tmp 30) (.tmp 31) 22 5 (.int .u8 0) 1 rfl Try.underlying22 info5s rfl (by decide) (by omega) v2 D [71, 72] A3 2 c3 (fun _ => True) (fun _ => False) rfl rfl (Kd.R_below HR2.out B3.out) HC3.out (fun _ _ h => h) (fun _ h => h.elim) (fun _ _ => trivial) (Below.refl _ _) ?aS ?aL ?_; (case aS => have := B2.out.size; have := B3.out.size; omega); (case aL => omega); intro v4 w4 r b hg ha; obtain ⟨gF, cF, hv, hbF, hltF, -⟩ := Kd.R_form r (by simp); have hl5 : (D ++ [(71 : Int), 72]).length = D.length + 2 := (by simp); rw [hl5] at hv; clear hl5; subst hv; obtain ⟨-, hcF, -⟩ := Kd.R_reads' r; have hcut := cutB (some ⟨gF, 0, none⟩) (D.length + 2) cF D.length (by omega) hcF; have hcFD : D.length ≤ cF := (by omega); have HR4 := Lib.hid r; have B4 := Lib.hid (show Below w1.heap.size w1 w4 from (B2.out.trans (B3.out.mono B2.out.size)).trans b); clear r b hg ha)
    | ((with_reducible refine gate_dst (N := 33) rfl ?_); refine Kd.R_lit Kd.bool (w0 := w4) w4.heap.size 4 ?hg (N := 33) ?hd (xs := ([] : List Bool)) (inner := []) (ok := fun _ => True) (okp := fun _ => True) ?hr ?hp (fun _ hk => hk) trivial (Below.refl _ _) (Nat.le_refl _) (by simp) ?_; (case hd => rfl); (case hg => rfl); (case hr => first | (go_simp; done) | (go_simp; rfl)); (case hp => exact Reps.none _ _); intro v5 w5 ho hb hg hat; have HR5 := Lib.hid ho; have B5 := Lib.hid hb; clear ho hb hg hat)
    | ((with_reducible refine gate_builtin (b := .append) (xs := #[.tmp 33, .tmp 34]) rfl ?_); at_builtin; refine Kd.R_append_rows Kd.bool (w0 := w5) w4.heap.size rfl (.tmp 33) (.tmp 34) 37 4 (.bool false) 1 rfl Try.underlying37 info4s rfl (by decide) (by omega) v5 [] U A2 U.length c2 (fun _ => True) (fun _ => False) rfl rfl HR5.out (Kd.C_below HC2.out (K1.out.trans ((B4.out.trans (B5.out.mono B4.out.size)).mono K1.out.size))) (fun _ _ h => h) (fun _ h => h.elim) (fun _ _ => trivial) (Below.refl _ _) ?aS ?aL ?_; (case aS => exact B5.out.size); (case aL => simp only [List.length_nil]; omega); intro v6 w6 r b hg ha; have HR6 := Lib.hid r; have B6 := Lib.hid (show Below w4.heap.size w4 w6 from B5.out.trans b); clear r b hg ha)
    | ((with_reducible refine gate_dst (N := 36) rfl ?_); refine Kd.R_lit Kd.bool (w0 := w6) w6.heap.size 4 ?hg (N := 36) ?hd (xs := [true, false]) (inner := [.bool true, .bool false]) (ok := fun _ => True) (okp := fun _ => True) ?hr ?hp (fun _ hk => hk) trivial (Below.refl _ _) (Nat.le_refl _) (by simp) ?_; (case hd => rfl); (case hg => rfl); (case hr => first | (go_simp; done) | (go_simp; rfl)); (case hp => exact Kd.reps_scalar [true, false]); intro v7 w7 ho hb hg hat; obtain ⟨A7, c7, rfl, hc7, hC7⟩ := Kd.R_reads ho; have HC7 := Lib.hid hC7; have B7 := Lib.hid hb; clear ho hb hg hat hC7)
    | ((with_reducible refine gate_builtin (b := .append) (xs := #[.tmp 35, .tmp 36]) rfl ?_); at_builtin; refine Kd.R_append_rows Kd.bool (w0 := w7) w4.heap.size rfl (.tmp 35) (.tmp 36) 37 4 (.bool false) 1 rfl Try.underlying37 info4s rfl (by decide) (by omega) v6 ([] ++ U) [true, false] A7 2 c7 (fun _ => True) (fun _ => False) rfl rfl (Kd.R_below HR6.out B7.out) HC7.out (fun _ _ h => h) (fun _ h => h.elim) (fun _ _ => trivial) (Below.refl _ _) ?aS ?aL ?_; (case aS => have := B6.out.size; have := B7.out.size; omega); (case aL => simp only [List.nil_append]; omega); intro v8 w8 r b hg ha; obtain ⟨gI, cI, hv, hbI, hltI, -⟩ := Kd.R_form r (by simp); have hl5 : (([] : List Bool) ++ U ++ [true, false]).length = U.length + 2 := (by simp); rw [hl5] at hv; clear hl5; subst hv; obtain ⟨-, hcI, -⟩ := Kd.R_reads' r; have hcutU := cutU (some ⟨gI, 0, none⟩) (U.length + 2) cI U.length (by omega) hcI; have hcIU : U.length ≤ cI := (by omega); have HR8 := Lib.hid r; have B8 := Lib.hid (show Below w4.heap.size w4 w8 from (B6.out.trans (B7.out.mono B6.out.size)).trans b); clear r b hg ha)
    | fail)
  have K4 := Lib.hid (K1.out.trans (B4.out.mono K1.out.size))
  have K8 := Lib.hid (K4.out.trans (B8.out.mono K4.out.size))
  have HF : Hid (∀ w', Below w4.heap.size w4 w' → kB.C w' (some ⟨gF, 0, none⟩) D.length D) := Lib.hid (fun w' hb => by
    have h1 := Kd.C_take (m := D.length) (Kd.C_below (Kd.R_reads' HR4.out).2.2 hb) (by simp)
    rw [List.take_left] at h1
    exact h1)
  have HI : Hid (∀ w', Below w8.heap.size w8 w' → Kd.bool.C w' (some ⟨gI, 0, none⟩) U.length U) := Lib.hid (fun w' hb => by
    have h1 := Kd.C_take (m := U.length) (Kd.C_below (Kd.R_reads' HR8.out).2.2 hb) (by simp)
    rw [List.nil_append, List.take_left] at h1
    exact h1)
  obtain ⟨⟨px, ee⟩, hP⟩ : ∃ p, pck id D = p := ⟨_, rfl⟩
  have HP := Lib.hid hP
  have hpc := pck_cases id D
  rw [hP] at hpc
  have HPC := Lib.hid hpc
  have HPK : Hid (∀ (A : Option Addr) (c : Nat) (w : World), kB.C w A D.length D → D.length ≤ c → Calls Try.prog 24 #[.int .u32 id, .slice A D.length c] w fun e w' => ∃ (A' : Option Addr) (c' : Nat), e = .returned (.tuple #[.slice A' px.length c', .int .i64 ee]) ∧ kB.R 5 w' w.heap.size (fun _ => True) (.slice A' px.length c') px ∧ Below w.heap.size w w') :=
    Lib.hid (fun A c w hr hc => by have := pack_p id A c D w hr hc HId.out HD.out; unfold PackP at this; rw [hP] at this; exact this)
  clear hP hpc HC3 HR2 HR5 HR6 HC7
  (go_at_call 24; refine (HPK.out _ _ _ (HF.out _ B8.out) hcFD).mono ?_; rintro e w9 ⟨Ax, cx, rfl, rx, b9⟩; have HRx := Lib.hid rx; have B9 := Lib.hid b9; clear rx b9)
  go_wp2_with fail
  (go_at_call 24; refine (HPK.out _ _ _ (HF.out _ (B8.out.trans (B9.out.mono B8.out.size))) hcFD).mono ?_; rintro e w10 ⟨Ay, cy, rfl, ry, b10⟩; have HRy := Lib.hid ry; have B10 := Lib.hid b10; clear ry b10)
  have B810 := Lib.hid (B9.out.trans (B10.out.mono B9.out.size))
  go_wp2_with fail
  (go_at_call 23; refine (first_p (some ⟨gI, 0, none⟩) cI U n w10 (HI.out _ B810.out) hcIU hUl).mono ?_; rintro e w11 ⟨Al, nl, cl, el, rl, rfl, rrl, hnl, b11⟩; have HRl := Lib.hid rrl; have B11 := Lib.hid b11; clear rrl b11)
  have B811 := Lib.hid (B810.out.trans (B11.out.mono B810.out.size))
  go_wp2_with fail
  (go_at_call 23; refine (first_p (some ⟨gI, 0, none⟩) cI U n w11 (HI.out _ B811.out) hcIU hUl).mono ?_; rintro e w12 ⟨Am, nm, cm, em, rm, rfl, rrm, hnm, b12⟩; have HRm := Lib.hid rrm; have B12 := Lib.hid b12; clear rrm b12)
  have B812 := Lib.hid (B811.out.trans (B12.out.mono B811.out.size))
  have B412 := Lib.hid (B8.out.trans (B812.out.mono B8.out.size))
  have K12 := Lib.hid (K4.out.trans (B412.out.mono K4.out.size))
  have rF := Kd.R_below HR4.out B412.out
  have q71 := (Kd.R_celln (0 : Int) rF (D.length : Int) (by omega) (by omega)).1
  have q72 := (Kd.R_celln (0 : Int) rF ((D.length : Int) + 1) (by omega) (by omega)).1
  rw [Int.toNat_natCast, show rdOf (0 : Int) (D ++ [71, 72]) (D.length : Int) = 71 by simp [rdOf]] at q71
  rw [show ((D.length : Int) + 1).toNat = D.length + 1 by omega, show rdOf (0 : Int) (D ++ [71, 72]) ((D.length : Int) + 1) = 72 by simp [rdOf, show ((D.length : Int) + 1).toNat = D.length + 1 by omega]] at q72
  have rI := Kd.R_below HR8.out B812.out
  have qT := (Kd.R_celln false rI (U.length : Int) (by omega) (by omega)).1
  have qF := (Kd.R_celln false rI ((U.length : Int) + 1) (by omega) (by omega)).1
  rw [Int.toNat_natCast, show rdOf false ([] ++ U ++ [true, false]) (U.length : Int) = true by simp [rdOf]] at qT
  rw [show ((U.length : Int) + 1).toNat = U.length + 1 by omega, show rdOf false ([] ++ U ++ [true, false]) ((U.length : Int) + 1) = false by simp [rdOf, show ((U.length : Int) + 1).toNat = U.length + 1 by omega]] at qF
  clear rF rI
  go_wp2_with fail
  (go_at_call 17; refine (sameB_p (some ⟨gF, 0, none⟩) A1 cF c1 D w12 (HF.out _ B412.out) hcFD (Kd.C_below HC1.out K12.out) hc1 (by omega)).mono ?_; rintro e w13 ⟨rfl, ⟨m1, rfl⟩⟩)
  go_wp2_with fail
  clear q71 q72 qT qF hcut hcutU
  have HRI := Lib.hid (Kd.R_below HR8.out B812.out)
  have HCU := Lib.hid (Kd.C_below HC2.out K12.out)
  go_loopg [19] U.length (fun m iv wz => ∃ (i dn : Nat), iv = .int .i64 i ∧ wz = w12.drewN dn ∧ Aside1 (i + m = U.length))
  case atStart => exact ⟨0, m1, rfl, rfl, ⟨Nat.zero_add _⟩⟩
  case round =>
    obtain ⟨i, dn, rfl, rfl, hA⟩ := hrel
    have HMi := Lib.hid hA.out
    have hiU : i ≤ U.length := by have := hA.out; omega
    clear hA
    have hwi : Hid (wrap64 ((i : Int) + 1) = ((i + 1 : Nat) : Int)) := Lib.hid (by unfold wrap64; omega)
    by_cases hi : i < U.length
    · have hii : (i : Int) < (U.length : Int) := by omega
      have hi0 : (0 : Int) ≤ (i : Int) := by omega
      have hii2 : (i : Int) < ((U.length : Int) + 2) := by omega
      obtain ⟨ad, rfl, hcu⟩ := Kd.at_bool HCU.out (i : Int) hi0 hii
      have hci := (Kd.R_celln false HRI.out (i : Int) hi0 (by omega)).1
      rw [Int.toNat_natCast] at hcu hci
      have hb : rdOf false ([] ++ U ++ [true, false]) (i : Int) = rdOf false U (i : Int) := by
        show (([] ++ U ++ [true, false] : List Bool)).getD ((i : Int)).toNat false = U.getD ((i : Int)).toNat false
        rw [Int.toNat_natCast, List.nil_append, List.getD_eq_getElem?_getD, List.getD_eq_getElem?_getD, List.getElem?_append_left hi]
      rw [hb] at hci
      clear hb
      generalize rdOf false U (i : Int) = b at hcu hci
      cases b with
      | true =>
        go_wp2_with fail
        go_quiet (fail)
        go_wp2
        go_roundg (gk - 1)
        case measure => have := HMi.out; omega
        case rel => exact ⟨i + 1, _, (by first | exact congrArg (Value.int .i64) hwi.out | exact congrArg (Value.int .i64) (by omega)), rfl, ⟨by have := HMi.out; omega⟩⟩
      | false =>
        go_wp2_with fail
        go_quiet (fail)
        go_wp2
        go_roundg (gk - 1)
        case measure => have := HMi.out; omega
        case rel => exact ⟨i + 1, _, (by first | exact congrArg (Value.int .i64) hwi.out | exact congrArg (Value.int .i64) (by omega)), rfl, ⟨by have := HMi.out; omega⟩⟩
    · have hii : ¬ (i : Int) < (U.length : Int) := by omega
      obtain rfl : i = U.length := by omega
      clear HRI HCU
      rcases HPC.out with ⟨hD1, hpk, hpl⟩ | ⟨hD1, hpk⟩
      · obtain ⟨hpx, rfl⟩ := Prod.mk.inj hpk
        have HPX := Lib.hid hpx
        clear hpk hpx
        go_wp2_with (first
          | ((with_reducible refine gate_dst (N := 131) rfl ?_); refine Kd.R_lit slc (w0 := (w12.drewN dn)) (w12.drewN dn).heap.size 38 ?hg (N := 131) ?hd (xs := [(Al, nl, cl), (Am, nm, cm)]) (inner := [.slice Al nl cl, .slice Am nm cm]) (ok := fun _ => True) (okp := fun _ => True) ?hr ?hp (fun _ hk => hk) trivial (Below.refl _ _) (Nat.le_refl _) (by simp) ?_; (case hd => rfl); (case hg => rfl); (case hr => first | (go_simp; done) | (go_simp; rfl)); (case hp => exact Kd.reps_scalar (α := SL) [(Al, nl, cl), (Am, nm, cm)]); intro v13 w13 ho hb hg hat; obtain ⟨A13, d13, hv13⟩ := Kd.R_slice ho; obtain ⟨n13, hn13⟩ : ∃ n, ([(Al, nl, cl), (Am, nm, cm)] : List SL).length = n := ⟨_, rfl⟩; rw [hn13] at hv13; subst hv13; have HN13 := Lib.hid hn13; clear hn13; have HS13 := Lib.hid ho; have B13 := Lib.hid (show Below w12.heap.size w12 w13 from (pw_below_drewN (Below.refl w12.heap.size w12) dn).trans hb); clear ho hb hg hat)
          | ((with_reducible refine gate_dst (N := 133) rfl ?_); refine Kd.R_lit slc (w0 := w13) w13.heap.size 22 ?hg (N := 133) ?hd (xs := [(some ⟨gF, 0, none⟩, D.length + 2, cF)]) (inner := [.slice (some ⟨gF, 0, none⟩) (D.length + 2) cF]) (ok := fun _ => True) (okp := fun _ => True) ?hr ?hp (fun _ hk => hk) trivial (Below.refl _ _) (Nat.le_refl _) (by simp) ?_; (case hd => rfl); (case hg => rfl); (case hr => first | (go_simp; done) | (go_simp; rfl)); (case hp => exact Kd.reps_scalar (α := SL) [(some ⟨gF, 0, none⟩, D.length + 2, cF)]); intro v14 w14 ho hb hg hat; obtain ⟨A14, d14, hv14⟩ := Kd.R_slice ho; obtain ⟨n14, hn14⟩ : ∃ n, ([(some ⟨gF, 0, none⟩, D.length + 2, cF)] : List SL).length = n := ⟨_, rfl⟩; rw [hn14] at hv14; subst hv14; have HN14 := Lib.hid hn14; clear hn14; have HS14 := Lib.hid ho; have B14 := Lib.hid hb; clear ho hb hg hat)
          | fail)
        have B914 := Lib.hid (B10.out.trans ((B11.out.trans ((B12.out.trans ((B13.out.trans (B14.out.mono B13.out.size)).mono B12.out.size)).mono B11.out.size)).mono B10.out.size))
        have hbk := Blk.new w14 54 [.slice A13 n13 d13, .slice none 0 0, .slice A14 n14 d14, .slice none 0 0]
        have HBK := Lib.hid hbk
        have BWs : Hid (∀ o : Obj, Below w14.heap.size w14 (w14.alloc o)) := Lib.hid (fun o => (Below.refl _ _).alloc (Nat.le_refl _) _)
        have HUN : Hid (∀ (w : World), kB.C w Ax px.length px → Calls Try.prog 26 #[.slice Ax px.length cx] w (UnpP id D w)) := Lib.hid (fun w hr => by
          rw [HPX.out] at hr ⊢
          exact unp_p id Ax _ cx D w hr (by have := (Kd.R_reads' HRx.out).2.1; rw [HPX.out] at this; exact this) HId.out HD.out hD1)
        have HCx : Hid (∀ w', Below w14.heap.size w14 w' → kB.C w' Ax px.length px) := Lib.hid (fun w' hb => Kd.C_below (Kd.R_reads' HRx.out).2.2 (B914.out.trans (hb.mono B914.out.size)))
        clear hbk
        (go_at_call 26; refine (HUN.out _ (HCx.out _ (BWs.out _))).mono ?_; rintro e w16 ⟨Ap, cp, rfl, rp, b16⟩; have HRp := Lib.hid rp; have B16 := Lib.hid b16; clear rp b16)
        have B1416 := Lib.hid ((BWs.out _).trans (B16.out.mono (BWs.out _).size))
        go_wp2_with fail
        (go_at_call 26; refine (HUN.out _ (HCx.out _ B1416.out)).mono ?_; rintro e w17 ⟨Aq, cq, rfl, rq, b17⟩; have HRq := Lib.hid rq; have B17 := Lib.hid b17; clear rq b17)
        have B1417 := Lib.hid (B1416.out.trans (B17.out.mono B1416.out.size))
        have hk17 := (HBK.out.below B16.out HBK.out.lt).below B17.out (HBK.out.below B16.out HBK.out.lt).lt
        have c17 := hk17.cell_at 2 _ rfl; have z17 := hk17.frozen 2; have s17 := hk17.lt
        have HBK17 := Lib.hid hk17
        have B1417a := Lib.hid s17
        have HQ14 : Hid (∀ q, q < w14.heap.size → q < w14.heap.size ∨ w17.heap.size ≤ q) := Lib.hid (fun q h => .inl h)
        have K17 := Lib.hid (K12.out.trans ((B13.out.trans ((B14.out.trans (B1417.out.mono B14.out.size)).mono B13.out.size)).mono K12.out.size))
        clear hk17
        go_wp2_with fail
        (go_at_call 17; refine (sameB_p Ap A1 cp c1 D w17 (Kd.C_below (Kd.R_reads' HRp.out).2.2 B17.out) (Kd.R_reads' HRp.out).2.1 (Kd.C_below HC1.out K17.out) hc1 (by omega)).mono ?_; rintro e w20 ⟨rfl, ⟨m2, rfl⟩⟩)
        go_wp2_with (first
          | ((with_reducible refine gate_dst (N := 159) rfl ?_); refine Kd.R_lit slc (w0 := (w17.drewN m2)) (w17.drewN m2).heap.size 22 ?hg (N := 159) ?hd (xs := [(Ax, px.length, cx), (Ay, px.length, cy), (Ap, D.length, cp), (Aq, D.length, cq)]) (inner := [.slice Ax px.length cx, .slice Ay px.length cy, .slice Ap D.length cp, .slice Aq D.length cq]) (ok := fun _ => True) (okp := fun _ => True) ?hr ?hp (fun _ hk => hk) trivial (Below.refl _ _) (Nat.le_refl _) (by simp) ?_; (case hd => rfl); (case hg => rfl); (case hr => first | (go_simp; done) | (go_simp; rfl)); (case hp => exact Kd.reps_scalar (α := SL) [(Ax, px.length, cx), (Ay, px.length, cy), (Ap, D.length, cp), (Aq, D.length, cq)]); intro v18 w18 ho hb hg hat; obtain ⟨A18, d18, hv18⟩ := Kd.R_slice ho; obtain ⟨n18, hn18⟩ : ∃ n, ([(Ax, px.length, cx), (Ay, px.length, cy), (Ap, D.length, cp), (Aq, D.length, cq)] : List SL).length = n := ⟨_, rfl⟩; rw [hn18] at hv18; subst hv18; have HN18 := Lib.hid hn18; clear hn18; have hC18 := (Kd.R_reads' ho).2.2; rw [HN18.out] at hC18; have HC18 := Lib.hid hC18; have B18 := Lib.hid (show Below w17.heap.size w17 w18 from (pw_below_drewN (Below.refl w17.heap.size w17) m2).trans hb); clear ho hb hg hat hC18)
          | ((with_reducible refine gate_builtin (b := .append) (xs := #[.tmp 154, .tmp 159]) rfl ?_); at_builtin; go_must (refine Kd.R_append_rows slc (w0 := _) w13.heap.size rfl (.tmp 154) (.tmp 159) 50 22 (.slice none 0 0) 24 rfl Try.underlying50 info22s rfl (by decide) (by omega) (.slice A14 n14 d14) [(some ⟨gF, 0, none⟩, D.length + 2, cF)] [(Ax, px.length, cx), (Ay, px.length, cy), (Ap, D.length, cp), (Aq, D.length, cq)] A18 n18 d18 (fun q => q < w14.heap.size ∨ w17.heap.size ≤ q) (fun _ => False) rfl rfl (Kd.R_below (Kd.R_mono (Kd.R_bound HS14.out) (fun q hq => HQ14.out q hq.2.2.1)) (B1417.out.trans (B18.out.mono B1417.out.size))) HC18.out (fun _ _ h => h) (fun _ h => h.elim) ?aF (Below.refl _ _) ?aS ?aL ?_; (case aF => intro k hk; have := B18.out.size; omega); (case aS => have := B18.out.size; have := B1417.out.size; have := B14.out.size; omega); (case aL => rw [← HN18.out]; simp); intro v19 w19 r b hg ha; obtain ⟨A19, d19, hv19⟩ := Kd.R_slice r; obtain ⟨n19, hn19⟩ : ∃ n, (([(some ⟨gF, 0, none⟩, D.length + 2, cF)] ++ [(Ax, px.length, cx), (Ay, px.length, cy), (Ap, D.length, cp), (Aq, D.length, cq)]) : List SL).length = n := ⟨_, rfl⟩; rw [hn19] at hv19; subst hv19; have HN19 := Lib.hid hn19; clear hn19; have HS19 := Lib.hid r; have O19 := Lib.hid (show Only w18 w19 (fun k => w13.heap.size ≤ k ∧ k ≤ w14.heap.size) from (Only.of_grown hg).mono (fun k _ hk => by have h8 := Kd.R_lt HS14.out _ hk.symm; have h7 := Kd.R_base HS14.out _ hk.symm; omega)); have k19 : Blk w19 w14.heap.size 54 [.slice A13 n13 d13, .slice none 0 0, .slice A14 n14 d14, .slice none 0 0] := (hg.block w14.heap.size (by have := B18.out.size; have := B1417a.out; omega) (fun e8 => by have := HS14.out; have h8 := Kd.R_lt this _ e8.symm; omega)).trans (HBK17.out.below B18.out HBK17.out.lt); have c19 := k19.cell_at 2 _ rfl; have z19 := k19.frozen 2; have s19 := k19.lt; have KB19 := Lib.hid k19; clear r b hg ha k19 c17 z17))
          | fail)
        have hs1 := K1.out.size; have hs4 := B4.out.size; have hs8 := B8.out.size; have hs9 := B9.out.size; have hs10 := B10.out.size; have hs11 := B11.out.size; have hs12 := B12.out.size; have hs13 := B13.out.size; have hs14 := B14.out.size; have hs16 := B16.out.size; have hs17 := B17.out.size; have hs18 := B18.out.size; have hs19 := O19.out.size
        rw [World.size_alloc] at hs16
        have hpxl : px.length = 128 := by rw [HPX.out]; exact hpl
        have O4 : Only w18 (w19.setCell ⟨w14.heap.size, 2, none⟩ (.slice A19 n19 d19)) (fun k => w13.heap.size ≤ k ∧ k ≤ w14.heap.size) := O19.out.setCell (p := ⟨w14.heap.size, 2, none⟩) (fun _ => ⟨hs14, Nat.le_refl _⟩) _
        have hbk : Blk (w19.setCell ⟨w14.heap.size, 2, none⟩ (.slice A19 n19 d19)) w14.heap.size 54 [.slice A13 n13 d13, .slice none 0 0, .slice A19 n19 d19, .slice none 0 0] := KB19.out.set_ 2 (.slice A19 n19 d19)
        have hS2 : slc.R 22 (w19.setCell ⟨w14.heap.size, 2, none⟩ (.slice A19 n19 d19)) w13.heap.size (fun q => q < w14.heap.size ∨ w17.heap.size ≤ q) (.slice A19 n19 d19) ([(some ⟨gF, 0, none⟩, D.length + 2, cF)] ++ [(Ax, px.length, cx), (Ay, px.length, cy), (Ap, D.length, cp), (Aq, D.length, cq)]) := Kd.R_far (p := ⟨w14.heap.size, 2, none⟩) HS19.out (fun k hk => by show k ≠ w14.heap.size; omega) _
        obtain ⟨W, hW⟩ : ∃ W, w19.setCell ⟨w14.heap.size, 2, none⟩ (.slice A19 n19 d19) = W := ⟨_, rfl⟩
        rw [hW] at O4 hbk hS2
        have b1418 := B1417.out.trans (B18.out.mono B1417.out.size)
        have b1218 := B13.out.trans ((B14.out.trans (b1418.mono B14.out.size)).mono B13.out.size)
        have gL := ((Seg.one HRl.out).below (B12.out.trans (b1218.mono B12.out.size))).lower (lo' := w.heap.size) (by omega)
        have gM := ((Seg.one HRm.out).below b1218).lower (lo' := w.heap.size) (by omega)
        have gI := (gL.join gM (fun q a b => by omega)).step O4 (fun q a b => by omega)
        have gF0 := ((Seg.one HR4.out).below (B412.out.trans (b1218.mono B412.out.size))).lower (lo' := w.heap.size) (by omega)
        have gX := ((Seg.one HRx.out).below (B914.out.trans (b1418.mono B914.out.size))).lower (lo' := w.heap.size) (by omega)
        have gY := ((Seg.one HRy.out).below ((B11.out.trans ((B12.out.trans (b1218.mono B12.out.size)).mono B11.out.size)))).lower (lo' := w.heap.size) (by omega)
        have gP := ((Seg.one HRp.out).below (B17.out.trans (B18.out.mono B17.out.size))).lower (lo' := w.heap.size) (by rw [World.size_alloc]; omega)
        rw [World.size_alloc] at gP
        have gQ := ((Seg.one HRq.out).below B18.out).lower (lo' := w.heap.size) (by omega)
        have gJ := ((((gF0.join gX (fun q a b => by omega)).join gY (fun q a b => by omega)).join gP (fun q a b => by omega)).join gQ (fun q a b => by omega)).step O4 (fun q a b => by omega)
        have hS : slc.R 38 W w.heap.size (fun q => ¬ ((w10.heap.size ≤ q ∧ q < w11.heap.size) ∨ (w11.heap.size ≤ q ∧ q < w12.heap.size))) (.slice A13 n13 d13) [(Al, nl, cl), (Am, nm, cm)] :=
          Kd.R_lower (Kd.R_mono (Kd.R_step (Kd.R_below (Kd.R_bound HS13.out) (B14.out.trans (b1418.mono B14.out.size))) (fun k hk hlt => O4.block k hlt (by have := hk.2.2.1; omega))) (fun q hq => by have := hq.2.1; have h9 : w12.heap.size ≤ q := this; omega)) (by show _ ≤ w12.heap.size; omega)
        have hS' : slc.R 22 W w.heap.size (fun q => ¬ ((w10.heap.size ≤ q ∧ q < w11.heap.size) ∨ (w11.heap.size ≤ q ∧ q < w12.heap.size)) ∧ ¬ (((((w1.heap.size ≤ q ∧ q < w4.heap.size) ∨ (w8.heap.size ≤ q ∧ q < w9.heap.size)) ∨ (w9.heap.size ≤ q ∧ q < w10.heap.size)) ∨ (w14.heap.size + 1 ≤ q ∧ q < w16.heap.size)) ∨ (w16.heap.size ≤ q ∧ q < w17.heap.size))) (.slice A19 n19 d19) ([(some ⟨gF, 0, none⟩, D.length + 2, cF)] ++ [(Ax, px.length, cx), (Ay, px.length, cy), (Ap, D.length, cp), (Aq, D.length, cq)]) :=
          Kd.R_lower (Kd.R_mono (Kd.R_bound hS2) (fun q hq => by have := hq.1; have := hq.2.1; omega)) (by omega)
        rw [← HN13.out] at hS hbk
        rw [← HN19.out] at hS' hbk
        have cB := book_ib w14.heap.size A13 A19 d13 d19 w.heap.size _ (fun q => (((((w1.heap.size ≤ q ∧ q < w4.heap.size) ∨ (w8.heap.size ≤ q ∧ q < w9.heap.size)) ∨ (w9.heap.size ≤ q ∧ q < w10.heap.size)) ∨ (w14.heap.size + 1 ≤ q ∧ q < w16.heap.size)) ∨ (w16.heap.size ≤ q ∧ q < w17.heap.size))) [(Al, nl, cl), (Am, nm, cm)] ([(some ⟨gF, 0, none⟩, D.length + 2, cF)] ++ [(Ax, px.length, cx), (Ay, px.length, cy), (Ap, D.length, cp), (Aq, D.length, cq)]) W (Lib.hid hbk) (Lib.hid (by omega)) (Lib.hid (by omega)) (Lib.hid (fun q a b => by omega)) (Lib.hid hS) (Lib.hid gI) (by have := O4.size; omega) (by simp)
          (Lib.hid (by intro p hp; simp only [List.mem_cons, List.not_mem_nil, or_false] at hp; rcases hp with rfl | rfl <;> simp only <;> omega)) (Lib.hid (by rw [start_two]; simp only; omega)) (Lib.hid hS') (Lib.hid gJ) (by simp)
          (Lib.hid (by intro p hp; simp only [List.cons_append, List.nil_append, List.mem_cons, List.not_mem_nil, or_false] at hp; rcases hp with rfl | rfl | rfl | rfl | rfl <;> simp only <;> omega))
        have KW := Lib.hid (show Below w.heap.size w W from (K17.out.trans (B18.out.mono K17.out.size)).trans (O4.below (by omega) (fun k hk hh => by omega)))
        have CB := Lib.hid (cB.mono fun e w' he => (⟨he.1, KW.out.trans (he.2.below KW.out.size (fun k hk hh => by omega))⟩ : e = .returned (.bool true) ∧ Below w.heap.size w w'))
        have HW := Lib.hid hW
        clear cB gL gM gF0 gX gY gP gQ gI gJ hS hS' hS2 hbk O4 b1418 b1218 hW hs1 hs4 hs8 hs9 hs10 hs11 hs12 hs13 hs14 hs16 hs17 hs18 hs19 hpxl
        (go_at_call 31; rw [HW.out]; refine CB.out.mono ?_; rintro e w21 ⟨rfl, b21⟩)
        go_wp2
        go_ret
        exact ⟨rfl, b21⟩
      · obtain ⟨hpx, rfl⟩ := Prod.mk.inj hpk
        clear hpk hpx
        go_wp2_with (first
          | ((with_reducible refine gate_dst (N := 131) rfl ?_); refine Kd.R_lit slc (w0 := (w12.drewN dn)) (w12.drewN dn).heap.size 38 ?hg (N := 131) ?hd (xs := [(Al, nl, cl), (Am, nm, cm)]) (inner := [.slice Al nl cl, .slice Am nm cm]) (ok := fun _ => True) (okp := fun _ => True) ?hr ?hp (fun _ hk => hk) trivial (Below.refl _ _) (Nat.le_refl _) (by simp) ?_; (case hd => rfl); (case hg => rfl); (case hr => first | (go_simp; done) | (go_simp; rfl)); (case hp => exact Kd.reps_scalar (α := SL) [(Al, nl, cl), (Am, nm, cm)]); intro v13 w13 ho hb hg hat; obtain ⟨A13, d13, hv13⟩ := Kd.R_slice ho; obtain ⟨n13, hn13⟩ : ∃ n, ([(Al, nl, cl), (Am, nm, cm)] : List SL).length = n := ⟨_, rfl⟩; rw [hn13] at hv13; subst hv13; have HN13 := Lib.hid hn13; clear hn13; have HS13 := Lib.hid ho; have B13 := Lib.hid (show Below w12.heap.size w12 w13 from (pw_below_drewN (Below.refl w12.heap.size w12) dn).trans hb); clear ho hb hg hat)
          | ((with_reducible refine gate_dst (N := 133) rfl ?_); refine Kd.R_lit slc (w0 := w13) w13.heap.size 22 ?hg (N := 133) ?hd (xs := [(some ⟨gF, 0, none⟩, D.length + 2, cF)]) (inner := [.slice (some ⟨gF, 0, none⟩) (D.length + 2) cF]) (ok := fun _ => True) (okp := fun _ => True) ?hr ?hp (fun _ hk => hk) trivial (Below.refl _ _) (Nat.le_refl _) (by simp) ?_; (case hd => rfl); (case hg => rfl); (case hr => first | (go_simp; done) | (go_simp; rfl)); (case hp => exact Kd.reps_scalar (α := SL) [(some ⟨gF, 0, none⟩, D.length + 2, cF)]); intro v14 w14 ho hb hg hat; obtain ⟨A14, d14, hv14⟩ := Kd.R_slice ho; obtain ⟨n14, hn14⟩ : ∃ n, ([(some ⟨gF, 0, none⟩, D.length + 2, cF)] : List SL).length = n := ⟨_, rfl⟩; rw [hn14] at hv14; subst hv14; have HN14 := Lib.hid hn14; clear hn14; have HS14 := Lib.hid ho; have B14 := Lib.hid hb; clear ho hb hg hat)
          | fail)
        have hs1 := K1.out.size; have hs4 := B4.out.size; have hs8 := B8.out.size; have hs9 := B9.out.size; have hs10 := B10.out.size; have hs11 := B11.out.size; have hs12 := B12.out.size; have hs13 := B13.out.size; have hs14 := B14.out.size
        have B1214 := Lib.hid (B13.out.trans (B14.out.mono B13.out.size))
        have hbk := Blk.new w14 54 [.slice A13 n13 d13, .slice none 0 0, .slice A14 n14 d14, .slice none 0 0]
        obtain ⟨W, hW⟩ : ∃ W, w14.alloc (.cells ([.slice A13 n13 d13, .slice none 0 0, .slice A14 n14 d14, .slice none 0 0] : List Value).toArray 54) = W := ⟨_, rfl⟩
        have bW : Below w14.heap.size w14 W := by rw [← hW]; exact (Below.refl _ _).alloc (Nat.le_refl _) _
        rw [hW] at hbk
        have gL := ((Seg.one HRl.out).below (B12.out.trans ((B1214.out.trans (bW.mono B1214.out.size)).mono B12.out.size))).lower (lo' := w.heap.size) (by omega)
        have gM := ((Seg.one HRm.out).below (B1214.out.trans (bW.mono B1214.out.size))).lower (lo' := w.heap.size) (by omega)
        have gFu := ((Seg.one HR4.out).below (B412.out.trans ((B1214.out.trans (bW.mono B1214.out.size)).mono B412.out.size))).lower (lo' := w.heap.size) (by omega)
        have gI := gL.join gM (fun q a b => by omega)
        have hS : slc.R 38 W w.heap.size (fun q => ¬ ((w10.heap.size ≤ q ∧ q < w11.heap.size) ∨ (w11.heap.size ≤ q ∧ q < w12.heap.size))) (.slice A13 n13 d13) [(Al, nl, cl), (Am, nm, cm)] :=
          Kd.R_lower (Kd.R_mono (Kd.R_bound (Kd.R_below HS13.out (B14.out.trans (bW.mono B14.out.size)))) (fun q hq => by have := hq.2.1; have h9 : w12.heap.size ≤ q := this; omega)) (by show _ ≤ w12.heap.size; omega)
        have hS' : slc.R 22 W w.heap.size (fun q => ¬ ((w10.heap.size ≤ q ∧ q < w11.heap.size) ∨ (w11.heap.size ≤ q ∧ q < w12.heap.size)) ∧ ¬ (w1.heap.size ≤ q ∧ q < w4.heap.size)) (.slice A14 n14 d14) [(some ⟨gF, 0, none⟩, D.length + 2, cF)] :=
          Kd.R_lower (Kd.R_mono (Kd.R_bound (Kd.R_below HS14.out bW)) (fun q hq => by have := hq.2.1; omega)) (by omega)
        rw [← HN13.out] at hS hbk
        rw [← HN14.out] at hS' hbk
        have cB := book_ib w14.heap.size A13 A14 d13 d14 w.heap.size _ _ [(Al, nl, cl), (Am, nm, cm)] [(some ⟨gF, 0, none⟩, D.length + 2, cF)] W (Lib.hid hbk) (Lib.hid (by omega)) (Lib.hid (by omega)) (Lib.hid (fun q a b => by omega)) (Lib.hid hS) (Lib.hid gI) (by have := bW.size; omega) (by simp)
          (Lib.hid (by intro p hp; simp only [List.mem_cons, List.not_mem_nil, or_false] at hp; rcases hp with rfl | rfl <;> simp only <;> omega)) (Lib.hid (by rw [start_two]; simp only; omega)) (Lib.hid hS') (Lib.hid gFu) (by simp)
          (Lib.hid (by intro p hp; simp only [List.mem_cons, List.not_mem_nil, or_false] at hp; rcases hp with rfl; simp only; omega))
        have KW := Lib.hid (show Below w.heap.size w W from K12.out.trans ((B1214.out.trans (bW.mono B1214.out.size)).mono K12.out.size))
        have CB := Lib.hid (cB.mono fun e w' he => (⟨he.1, KW.out.trans (he.2.below KW.out.size (fun k hk hh => by omega))⟩ : e = .returned (.bool true) ∧ Below w.heap.size w w'))
        have HW := Lib.hid hW
        clear cB gL gM gFu gI hS hS' hbk bW hW hs1 hs4 hs8 hs9 hs10 hs11 hs12 hs13 hs14
        (go_at_call 31; first | refine CB.out.mono ?_ | (rw [show w14.alloc _ = W from HW.out]; refine CB.out.mono ?_); rintro e w15 ⟨rfl, b15⟩)
        go_wp2
        go_ret
        exact ⟨rfl, b15⟩
#print axioms pkeeps_c
end Go.Proofs.Ytdpoifaeimmdmaa.PKp
