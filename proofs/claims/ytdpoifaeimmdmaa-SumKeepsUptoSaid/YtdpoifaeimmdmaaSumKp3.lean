/- Seat A: SumKeeps: the walk. -/
import Derived.Test.YtdpoifaeimmdmaaSumKp2
namespace Go.Proofs.Ytdpoifaeimmdmaa.Kp
open Go.RowKit Go.Proofs.Ytdpoifaeimmdmaa.Mem Go.Proofs.YtdpoifaeimmdmaaW.PrintWords Go.Proofs.YtdpoifaeimmdmaaW.PrintLast Go.Proofs.YtdpoifaeimmdmaaW.PrintMore
open Go.Proofs.Ytdpoifaeimmdmaa.Sp Go.Proofs.Ytdpoifaeimmdmaa.Spl Go.Proofs.Ytdpoifaeimmdmaa.Rd Go.Proofs.Ytdpoifaeimmdmaa.Ap Go.Proofs.Ytdpoifaeimmdmaa.Dk
set_option linter.unusedVariables false
set_option linter.unusedSimpArgs false
set_option maxRecDepth 100000
theorem info5s : (Try.prog.info? 5).map (fun i => (i.zero, i.size, i.bytes)) = some (some (.int .u8 0), 1, 1) := by kernel_rfl
theorem cutB (A : Option Addr) (n c j : Nat) (hj : j ≤ n) (hc : n ≤ c) : ∀ W : World, (Instr.slice 22 (.slice A n c) none (some (.int .i64 (j : Int))) none).run Try.prog W = .ok (.slice A j c) W := by
  obtain ⟨i, hi, hz⟩ := Option.map_eq_some_iff.1 info5s
  intro W
  have := cut_to (P := Try.prog) 22 5 .i64 Try.underlying22 hi A n c (j : Int) (by omega) (by omega) hc W
  rw [this, Int.toNat_natCast]
theorem info22s : (Try.prog.info? 22).map (fun i => (i.zero, i.size, i.bytes)) = some (some (.slice none 0 0), 1, 24) := by kernel_rfl
set_option maxHeartbeats 16000000 in
theorem keeps_c (A0 : Option Addr) (c0 : Nat) (L : List (List Int)) (A1 : Option Addr) (c1 : Nat) (B : List Int) (w : World) (hC0 : kL.C w A0 L.length L) (hc0 : L.length ≤ c0) (hC1 : kB.C w A1 B.length B) (hc1 : B.length ≤ c1) (hL : Lst L 1048576) (hB : Byt B 1048576) :
    Calls Try.prog 12 #[.slice A0 L.length c0, .slice A1 B.length c1] w fun e w' => e = .returned (.bool true) ∧ Below w.heap.size w w' := by
  have HL := Lib.hid hL; have HBy := Lib.hid hB; have HC0 := Lib.hid hC0; have HC1 := Lib.hid hC1
  have hBl := hB.len
  have hLl := hL.len
  clear hL hB hC0 hC1
  go_enter Try.func12, Try.ntmps12
  go_wp2_with fail
  (go_at_call 13; refine (awake_k w).mono ?_; rintro e w1 ⟨rfl, b1⟩; have K1 := Lib.hid b1; clear b1)
  go_wp2_with fail
  (go_at_call 33; refine (owns_k A0 c0 L w1 (Kd.C_below HC0.out K1.out) hc0 HL.out).mono ?_; rintro e w2 ⟨vin, rfl, s2, b2⟩; obtain ⟨Ain, cin, vsI, rfl, hcin, hCin, hvI, hsI, gI, lI⟩ := parts s2; have K2 := Lib.hid (K1.out.trans (b2.mono K1.out.size)); have HCin := Lib.hid hCin; have HsI := Lib.hid hsI; have GI := Lib.hid gI; have LI := Lib.hid lI; have HvI := Lib.hid hvI; have Z2 := Lib.hid b2.size; clear s2 b2 hCin hsI gI lI hvI)
  go_wp2_with fail
  (go_at_call 14; refine (own_k A1 c1 B w2 (Kd.C_below HC1.out K2.out) hc1 hBl).mono ?_; rintro e w3 ⟨v3, rfl, r3, b3⟩; have K3 := Lib.hid (K2.out.trans (b3.mono K2.out.size)); have HR3 := Lib.hid r3; have B3 := Lib.hid b3; clear r3 b3)
  go_wp2_with (first | ((with_reducible refine gate_dst (N := 20) rfl ?_); refine Kd.R_lit kB (w0 := w3) w3.heap.size 5 ?hg (N := 20) ?hd (xs := [71, 72]) (inner := [.int .u8 71, .int .u8 72]) (ok := fun _ => True) (okp := fun _ => True) ?hr ?hp (fun _ hk => hk) trivial (Below.refl _ _) (Nat.le_refl _) (by simp) ?_; (case hd => rfl); (case hg => rfl); (case hr => first | (go_simp; done) | (go_simp; rfl)); (case hp => exact Kd.reps_scalar [71, 72]); intro v4 w4 ho4 hb4 hg4 hat4; obtain ⟨A4, c4, rfl, hc4, hC4⟩ := Kd.R_reads ho4; have HC4 := Lib.hid hC4; have B4 := Lib.hid hb4; clear ho4 hb4 hg4 hat4 hC4) | ((with_reducible refine gate_builtin (b := .append) (xs := #[.tmp 19, .tmp 20]) rfl ?_); at_builtin; refine Kd.R_append_rows kB (w0 := w4) w2.heap.size rfl (.tmp 19) (.tmp 20) 22 5 (.int .u8 0) 1 rfl Try.underlying22 info5s rfl (by decide) (by omega) v3 B [71, 72] A4 2 c4 (fun _ => True) (fun _ => False) rfl rfl (Kd.R_below HR3.out B4.out) HC4.out (fun _ _ h => h) (fun _ h => h.elim) (fun _ _ => trivial) (Below.refl _ _) ?aS ?aL ?_; (case aS => have := B3.out.size; have := B4.out.size; omega); (case aL => omega); intro v5 w5 r5 b5 hg5 ha5; have HR5 := Lib.hid r5; have B5 := Lib.hid (show Below w2.heap.size w2 w5 from (B3.out.trans (B4.out.mono B3.out.size)).trans b5); clear r5 b5 hg5 ha5) | fail)
  have hl5 : (B ++ [71, 72]).length = B.length + 2 := by simp
  obtain ⟨gF, cF, hv5, hbF, hltF, -⟩ := Kd.R_form HR5.out (by simp)
  rw [hl5] at hv5
  subst hv5
  obtain ⟨-, hcF, hCF⟩ := Kd.R_reads' HR5.out
  have HF : Hid (∀ w', Below w5.heap.size w5 w' → kB.C w' (some ⟨gF, 0, none⟩) B.length B) := Lib.hid (fun w' hb => by
    have h1 := Kd.C_take (m := B.length) (Kd.C_below hCF hb) (by simp)
    rw [List.take_left] at h1
    exact h1)
  have hcut := cutB (some ⟨gF, 0, none⟩) (B.length + 2) cF B.length (by omega) hcF
  have hcFB : B.length ≤ cF := by omega
  have HRF := HR5
  clear hCF hl5 HR3 HC4
  have K5 := Lib.hid (K2.out.trans (B5.out.mono K2.out.size))
  obtain ⟨J, hJ⟩ : ∃ J, joinP L = J := ⟨_, rfl⟩
  have hjl := PSumListsLv.join_le L hLl (fun b hb => (HL.out.each b hb).len)
  rw [hJ] at hjl
  have HJ := Lib.hid hJ
  clear hJ
  obtain ⟨⟨P, ee⟩, hP⟩ : ∃ p, ansS B = p := ⟨_, rfl⟩
  have hPl := ans_lst B HBy.out
  have hPe := ans_end B
  rw [hP] at hPl hPe
  have HP := Lib.hid hP; have HPl := Lib.hid hPl; have HPe := Lib.hid hPe
  clear hP hPl hPe
  go_wp2_with fail
  (go_at_call 32; refine (join_k Ain cin L w5 (Kd.C_below HCin.out B5.out) hcin HL.out).mono ?_; rw [HJ.out]; rintro e w6 ⟨vx, rfl, rx, b6⟩; obtain ⟨Ax, cx, rfl, hcx, hCx⟩ := Kd.R_reads rx; have HRx := Lib.hid rx; have HCx := Lib.hid hCx; have B6 := Lib.hid b6; clear rx hCx b6)
  go_wp2_with fail
  (go_at_call 32; refine (join_k Ain cin L w6 (Kd.C_below HCin.out (B5.out.trans (B6.out.mono B5.out.size))) hcin HL.out).mono ?_; rw [HJ.out]; rintro e w7 ⟨vy, rfl, ry, b7⟩; obtain ⟨Ay, cy, rfl, hcy, hCy⟩ := Kd.R_reads ry; have HRy := Lib.hid ry; have HCy := Lib.hid hCy; have B7 := Lib.hid b7; clear ry hCy b7)
  have B57 := Lib.hid (B6.out.trans (B7.out.mono B6.out.size))
  go_wp2_with fail
  (go_at_call 15; refine (sum_k (some ⟨gF, 0, none⟩) cF B _ (HF.out _ B57.out) hcFB HBy.out).mono ?_; rintro e w8 ⟨rfl, ⟨m1, rfl⟩⟩)
  go_wp2_with fail
  (go_at_call 20; refine (read_k (some ⟨gF, 0, none⟩) cF B _ (HF.out _ (pw_below_drewN B57.out m1)) hcFB HBy.out).mono ?_; rintro e w8 ⟨rfl, ⟨m2, rfl⟩⟩)
  have B58 := Lib.hid (pw_below_drewN B57.out (m1 + m2))
  have B78 := Lib.hid (pw_below_drewN (Below.refl w7.heap.size w7) (m1 + m2))
  go_wp2_with fail
  (go_at_call 35; refine (split_k (some ⟨gF, 0, none⟩) cF B _ (HF.out _ B58.out) hcFB HBy.out).mono ?_; rw [HP.out]; rintro e w9 ⟨vp, rfl, sp, b9⟩; obtain ⟨Ap, cp, vsP, rfl, hcp, hCp, hvP, hsP, gP, lP⟩ := parts sp; have HCp := Lib.hid hCp; have HsP := Lib.hid hsP; have GP := Lib.hid gP; have LP := Lib.hid lP; have HvP := Lib.hid hvP; have B9 := Lib.hid (show Below w7.heap.size w7 w9 from B78.out.trans (b9.mono B78.out.size)); have B59 := Lib.hid (show Below w5.heap.size w5 w9 from B58.out.trans (b9.mono B58.out.size)); clear sp b9 hCp hsP gP lP hvP)
  go_wp2_with fail
  (go_at_call 35; refine (split_k (some ⟨gF, 0, none⟩) cF B _ (HF.out _ B59.out) hcFB HBy.out).mono ?_; rw [HP.out]; rintro e w10 ⟨vq, rfl, sq, b10⟩; obtain ⟨Aq, cq, vsQ, rfl, hcq, hCq, hvQ, hsQ, gQ, lQ⟩ := parts sq; have HCq := Lib.hid hCq; have HsQ := Lib.hid hsQ; have GQ := Lib.hid gQ; have LQ := Lib.hid lQ; have HvQ := Lib.hid hvQ; have B10 := Lib.hid b10; have B510 := Lib.hid (show Below w5.heap.size w5 w10 from B59.out.trans (b10.mono B59.out.size)); clear sq b10 hCq hsQ gQ lQ hvQ)
  have B710 := Lib.hid (B9.out.trans (B10.out.mono B9.out.size))
  have B610 := Lib.hid (B7.out.trans (B710.out.mono B7.out.size))
  have B210 := Lib.hid (B5.out.trans (B510.out.mono B5.out.size))
  have K10 := Lib.hid (K2.out.trans (B210.out.mono K2.out.size))
  have rF := Kd.R_below HR5.out B510.out
  have q71 := (Kd.R_celln (0 : Int) rF (B.length : Int) (by omega) (by omega)).1
  have q72 := (Kd.R_celln (0 : Int) rF ((B.length : Int) + 1) (by omega) (by omega)).1
  rw [Int.toNat_natCast, show rdOf (0 : Int) (B ++ [71, 72]) (B.length : Int) = 71 by simp [rdOf]] at q71
  rw [show ((B.length : Int) + 1).toNat = B.length + 1 by omega, show rdOf (0 : Int) (B ++ [71, 72]) ((B.length : Int) + 1) = 72 by simp [rdOf, show ((B.length : Int) + 1).toNat = B.length + 1 by omega]] at q72
  clear rF
  go_wp2_with fail
  (go_at_call 37; refine (sameL_k Ain A0 cin c0 L _ (Kd.C_below HCin.out B210.out) hcin (Kd.C_below HC0.out K10.out) hc0 HL.out).mono ?_; rintro e w11 ⟨rfl, ⟨m3, rfl⟩⟩)
  go_wp2_with fail
  (go_at_call 17; refine (sameB_k (some ⟨gF, 0, none⟩) A1 cF c1 B _ (Kd.C_drewN (HF.out _ B510.out) m3) hcFB (Kd.C_drewN (Kd.C_below HC1.out K10.out) m3) hc1 (by omega)).mono ?_; rintro e w11 ⟨rfl, ⟨m4, rfl⟩⟩)
  go_wp2_with fail
  (go_at_call 17; refine (sameB_k Ax Ay cx cy J _ (Kd.C_drewN (Kd.C_below HCx.out B610.out) (m3 + m4)) hcx (Kd.C_drewN (Kd.C_below HCy.out B710.out) (m3 + m4)) hcy (by omega)).mono ?_; rintro e w11 ⟨rfl, ⟨m5, rfl⟩⟩)
  go_wp2_with fail
  (go_at_call 37; refine (sameL_k Ap Aq cp cq P _ (Kd.C_drewN (Kd.C_below HCp.out B10.out) (m3 + m4 + m5)) hcp (Kd.C_drewN HCq.out (m3 + m4 + m5)) hcq HPl.out).mono ?_; rintro e w11 ⟨rfl, ⟨m6, rfl⟩⟩)
  have hPn : P.length ≤ 1048576 := HPl.out.len
  clear q71 q72
  go_wp2_with (first | ((with_reducible refine gate_dst (N := 97) rfl ?_); refine Kd.R_lit slc (w0 := w10.drewN (m3 + m4 + m5 + m6)) w10.heap.size 22 ?hg (N := 97) ?hd (xs := [(Ax, J.length, cx), (Ay, J.length, cy), (some ⟨gF, 0, none⟩, B.length + 2, cF)]) (inner := [.slice Ax J.length cx, .slice Ay J.length cy, .slice (some ⟨gF, 0, none⟩) (B.length + 2) cF]) (ok := fun _ => True) (okp := fun _ => True) ?hr ?hp (fun _ hk => hk) trivial (Below.refl _ _) (Nat.le_refl _) (by simp) ?_; (case hd => rfl); (case hg => rfl); (case hr => first | (go_simp; done) | (go_simp; rfl)); (case hp => exact Kd.reps_scalar [(Ax, J.length, cx), (Ay, J.length, cy), (some ⟨gF, 0, none⟩, B.length + 2, cF)]); intro v11 w11 ho hb hg hat; obtain ⟨A11, d11, hv11⟩ := Kd.R_slice ho; obtain ⟨n11, hn11⟩ : ∃ n, ([(Ax, J.length, cx), (Ay, J.length, cy), (some ⟨gF, 0, none⟩, B.length + 2, cF)] : List SL).length = n := ⟨_, rfl⟩; rw [hn11] at hv11; subst hv11; have HN11 := Lib.hid hn11; clear hn11; have HS11 := Lib.hid (show slc.R 22 w11 w10.heap.size (fun q => q ≠ w11.heap.size) (.slice A11 n11 d11) _ from Kd.R_mono (Kd.R_bound ho) (fun q hq => by have := hq.2.2.1; omega)); have BX11 := Lib.hid (show Below w10.heap.size w10 w11 from (pw_below_drewN (Below.refl w10.heap.size w10) (m3 + m4 + m5 + m6)).trans hb); clear ho hb hg hat) | ((with_reducible refine gate_builtin (b := .append) (xs := #[.tmp 100, .tmp 101]) rfl ?_); at_builtin; refine Kd.R_append_rows slc (w0 := _) w10.heap.size rfl (.tmp 100) (.tmp 101) 50 22 (.slice none 0 0) 24 rfl Try.underlying50 info22s rfl (by decide) (by omega) (.slice A11 n11 d11) [(Ax, J.length, cx), (Ay, J.length, cy), (some ⟨gF, 0, none⟩, B.length + 2, cF)] vsI Ain L.length cin (fun q => q ≠ w11.heap.size) (fun _ => False) rfl rfl (Kd.R_alloc HS11.out _) (Kd.C_alloc (Kd.C_below HsI.out (B210.out.trans (BX11.out.mono B210.out.size))) _) (fun _ _ h => h) (fun _ h => h.elim) ?aF (Below.refl _ _) ?aS ?aL ?_; (case aF => intro k hk; rw [World.size_alloc] at hk; omega); (case aS => have := BX11.out.size; rw [World.size_alloc]; omega); (case aL => simp only [List.length_append, List.length_cons, List.length_nil, HvI.out, HvP.out, HvQ.out]; omega); intro v12 w12 r b hg ha; obtain ⟨A12, d12, hv12⟩ := Kd.R_slice r; obtain ⟨n12, hn12⟩ : ∃ n, ([(Ax, J.length, cx), (Ay, J.length, cy), (some ⟨gF, 0, none⟩, B.length + 2, cF)] ++ vsI).length = n := ⟨_, rfl⟩; rw [hn12] at hv12; subst hv12; have HN12 := Lib.hid hn12; clear hn12; have HS12 := Lib.hid r; have BX12 := Lib.hid ((BX11.out.alloc BX11.out.size _).trans b); have k12 : Blk w12 w11.heap.size 54 [.slice none 0 0, .slice none 0 0, (.slice A11 n11 d11), .slice none 0 0] := (hg.block w11.heap.size (by simp) (fun e8 => HS11.out.1 _ e8.symm rfl)).trans (Blk.new w11 54 [.slice none 0 0, .slice none 0 0, (.slice A11 n11 d11), .slice none 0 0]); have c12 := k12.cell_at 2 _ rfl; have z12 := k12.frozen 2; have s12 := k12.lt; have KB12 := Lib.hid k12; clear r b hg ha k12) | ((with_reducible refine gate_builtin (b := .append) (xs := #[.tmp 105, .tmp 106]) rfl ?_); at_builtin; refine Kd.R_append_rows slc (w0 := _) w10.heap.size rfl (.tmp 105) (.tmp 106) 50 22 (.slice none 0 0) 24 rfl Try.underlying50 info22s rfl (by decide) (by omega) (.slice A12 n12 d12) ([(Ax, J.length, cx), (Ay, J.length, cy), (some ⟨gF, 0, none⟩, B.length + 2, cF)] ++ vsI) vsP Ap P.length cp (fun q => q ≠ w11.heap.size) (fun _ => False) rfl rfl (Kd.R_far (p := ⟨w11.heap.size, 2, none⟩) HS12.out (fun k hk => hk) (.slice A12 n12 d12)) (Kd.C_below HsP.out ((B10.out.trans (BX12.out.mono B10.out.size)).setCell (by have := B10.out.size; have := BX11.out.size; show _ ≤ w11.heap.size; omega) _)) (fun _ _ h => h) (fun _ h => h.elim) ?aF (Below.refl _ _) ?aS ?aL ?_; (case aF => intro k hk; rw [World.size_setCell] at hk; omega); (case aS => have := BX12.out.size; rw [World.size_setCell]; omega); (case aL => simp only [List.length_append, List.length_cons, List.length_nil, HvI.out, HvP.out, HvQ.out]; omega); intro v13 w13 r b hg ha; obtain ⟨A13, d13, hv13⟩ := Kd.R_slice r; obtain ⟨n13, hn13⟩ : ∃ n, ([(Ax, J.length, cx), (Ay, J.length, cy), (some ⟨gF, 0, none⟩, B.length + 2, cF)] ++ vsI ++ vsP).length = n := ⟨_, rfl⟩; rw [hn13] at hv13; subst hv13; have HN13 := Lib.hid hn13; clear hn13; have HS13 := Lib.hid r; have BX13 := Lib.hid ((BX12.out.setCell (p := ⟨w11.heap.size, 2, none⟩) BX11.out.size (.slice A12 n12 d12)).trans b); have k13 : Blk w13 w11.heap.size 54 [.slice none 0 0, .slice none 0 0, (.slice A12 n12 d12), .slice none 0 0] := (hg.block w11.heap.size (by rw [World.size_setCell]; exact s12) (fun e8 => HS12.out.1 _ e8.symm rfl)).trans (KB12.out.set_ 2 (.slice A12 n12 d12)); have c13 := k13.cell_at 2 _ rfl; have z13 := k13.frozen 2; have s13 := k13.lt; have KB13 := Lib.hid k13; clear r b hg ha k13 c12 z12) | ((with_reducible refine gate_builtin (b := .append) (xs := #[.tmp 110, .tmp 111]) rfl ?_); at_builtin; refine Kd.R_append_rows slc (w0 := _) w10.heap.size rfl (.tmp 110) (.tmp 111) 50 22 (.slice none 0 0) 24 rfl Try.underlying50 info22s rfl (by decide) (by omega) (.slice A13 n13 d13) ([(Ax, J.length, cx), (Ay, J.length, cy), (some ⟨gF, 0, none⟩, B.length + 2, cF)] ++ vsI ++ vsP) vsQ Aq P.length cq (fun q => q ≠ w11.heap.size) (fun _ => False) rfl rfl (Kd.R_far (p := ⟨w11.heap.size, 2, none⟩) HS13.out (fun k hk => hk) (.slice A13 n13 d13)) (Kd.C_below HsQ.out (BX13.out.setCell (by have := BX11.out.size; show _ ≤ w11.heap.size; omega) _)) (fun _ _ h => h) (fun _ h => h.elim) ?aF (Below.refl _ _) ?aS ?aL ?_; (case aF => intro k hk; rw [World.size_setCell] at hk; omega); (case aS => have := BX13.out.size; rw [World.size_setCell]; omega); (case aL => simp only [List.length_append, List.length_cons, List.length_nil, HvI.out, HvP.out, HvQ.out]; omega); intro v14 w14 r b hg ha; obtain ⟨A14, d14, hv14⟩ := Kd.R_slice r; obtain ⟨n14, hn14⟩ : ∃ n, ([(Ax, J.length, cx), (Ay, J.length, cy), (some ⟨gF, 0, none⟩, B.length + 2, cF)] ++ vsI ++ vsP ++ vsQ).length = n := ⟨_, rfl⟩; rw [hn14] at hv14; subst hv14; have HN14 := Lib.hid hn14; clear hn14; have HS14 := Lib.hid r; have BX14 := Lib.hid ((BX13.out.setCell (p := ⟨w11.heap.size, 2, none⟩) BX11.out.size (.slice A13 n13 d13)).trans b); have k14 : Blk w14 w11.heap.size 54 [.slice none 0 0, .slice none 0 0, (.slice A13 n13 d13), .slice none 0 0] := (hg.block w11.heap.size (by rw [World.size_setCell]; exact s13) (fun e8 => HS13.out.1 _ e8.symm rfl)).trans (KB13.out.set_ 2 (.slice A13 n13 d13)); have c14 := k14.cell_at 2 _ rfl; have z14 := k14.frozen 2; have s14 := k14.lt; have KB14 := Lib.hid k14; clear r b hg ha k14 c13 z13) | fail)
  have hsz1 := K1.out.size; have hsz2 := Z2.out; have hsz5 := B5.out.size; have hsz6 := B6.out.size; have hsz7 := B7.out.size; have hsz9 := B9.out.size; have hsz10 := B10.out.size; have hsz11 := BX11.out.size; have hsz14 := BX14.out.size
  have DX : Below w10.heap.size w10 (w14.setCell ⟨w11.heap.size, 2, none⟩ (.slice A14 n14 d14)) := BX14.out.setCell hsz11 _
  obtain ⟨W4, hW4⟩ : ∃ W4, w14.setCell ⟨w11.heap.size, 2, none⟩ (.slice A14 n14 d14) = W4 := ⟨_, rfl⟩
  have hl5 : (B ++ [71, 72]).length = B.length + 2 := by simp
  have gF0 : Seg w5 w2.heap.size (fun q => w2.heap.size ≤ q ∧ q < w5.heap.size) [(some ⟨gF, 0, none⟩, B.length + 2, cF)] := by
    have := Seg.one (w := w5) (lo := w2.heap.size) (A := some ⟨gF, 0, none⟩) (c := cF) (ys := B ++ [71, 72]) (by rw [hl5]; exact HR5.out)
    rw [hl5] at this
    exact this
  have hS4 : slc.R 22 (w14.setCell ⟨w11.heap.size, 2, none⟩ (.slice A14 n14 d14)) w10.heap.size (fun q => q ≠ w11.heap.size) (.slice A14 n14 d14) ([(Ax, J.length, cx), (Ay, J.length, cy), (some ⟨gF, 0, none⟩, B.length + 2, cF)] ++ vsI ++ vsP ++ vsQ) := Kd.R_far (p := ⟨w11.heap.size, 2, none⟩) HS14.out (fun k hk => hk) _
  have hB4 := KB14.out.set_ 2 (.slice A14 n14 d14)
  rw [hW4] at DX hS4 hB4
  have gX := ((Seg.one HRx.out).below (B610.out.trans (DX.mono (by omega)))).lower (lo' := w.heap.size) (by omega)
  have gY := ((Seg.one HRy.out).below (B710.out.trans (DX.mono (by omega)))).lower (lo' := w.heap.size) (by omega)
  have gG := (gF0.below (B510.out.trans (DX.mono (by omega)))).lower (lo' := w.heap.size) (by omega)
  have gI := (GI.out.below (B210.out.trans (DX.mono (by omega)))).lower (lo' := w.heap.size) (by omega)
  have gP := (GP.out.below (B10.out.trans (DX.mono (by omega)))).lower (lo' := w.heap.size) (by show _ ≤ w7.heap.size; omega)
  have gP : Seg W4 w.heap.size (fun q => w7.heap.size ≤ q ∧ q < w9.heap.size) vsP := gP
  have gQ := (GQ.out.below DX).lower (lo' := w.heap.size) (by omega)
  have gAll := ((((gX.join gY (fun q a b => by omega)).join gG (fun q a b => by omega)).join gI (fun q a b => by omega)).join gP (fun q a b => by omega)).join gQ (fun q a b => by omega)
  obtain ⟨own0, hPc, h0⟩ := gAll.pieces
  have h0' : ∀ q, q < w.heap.size ∨ w10.heap.size ≤ q → own0 q = 0 := fun q hq => h0 q (by omega)
  have hlen : ([(Ax, J.length, cx), (Ay, J.length, cy), (some ⟨gF, 0, none⟩, B.length + 2, cF)] ++ vsI ++ vsP ++ vsQ).length ≤ 9000000 := by simp only [List.length_append, List.length_cons, List.length_nil, HvI.out, HvP.out, HvQ.out]; omega
  have hl9 : ∀ p ∈ ([(Ax, J.length, cx), (Ay, J.length, cy), (some ⟨gF, 0, none⟩, B.length + 2, cF)] ++ vsI ++ vsP ++ vsQ), p.2.1 + 9 ≤ 140737488355328 := by
    intro p hp
    rcases List.mem_append.1 hp with hp | hp
    · rcases List.mem_append.1 hp with hp | hp
      · rcases List.mem_append.1 hp with hp | hp
        · simp only [List.mem_cons, List.not_mem_nil, or_false] at hp
          rcases hp with rfl | rfl | rfl
          · show J.length + 9 ≤ _; omega
          · show J.length + 9 ≤ _; omega
          · show B.length + 2 + 9 ≤ _; omega
        · obtain ⟨ys, h1, h2⟩ := LI.out p hp
          have := (HL.out.each ys h1).len; omega
      · obtain ⟨ys, h1, h2⟩ := LP.out p hp
        have := (HPl.out.each ys h1).len; omega
    · obtain ⟨ys, h1, h2⟩ := LQ.out p hp
      have := (HPl.out.each ys h1).len; omega
  have cB := book_bytes w11.heap.size A14 d14 w.heap.size own0 ([(Ax, J.length, cx), (Ay, J.length, cy), (some ⟨gF, 0, none⟩, B.length + 2, cF)] ++ vsI ++ vsP ++ vsQ) W4 (Lib.hid (by rw [HN14.out]; exact hB4)) (Lib.hid (by rw [h0' _ (.inr hsz11)]; omega)) (Lib.hid (by rw [HN14.out]; exact Kd.R_lower (Kd.R_mono (Kd.R_bound hS4) (fun q hq => h0' q (.inr hq.2.1))) (by omega))) (Lib.hid hPc) (by have := DX.size; omega) (by omega) (Lib.hid hl9)
  have KW := Lib.hid (show Below w.heap.size w W4 from K10.out.trans (DX.mono K10.out.size))
  have HO0 := Lib.hid h0'
  have HW4 := Lib.hid hW4
  have CB := Lib.hid cB
  clear gX gY gG gF0 gI gP gQ gAll hPc h0 h0' hS4 hB4 DX hl9 hlen cB hsz1 hsz2 hsz5 hsz6 hsz7 hsz9 hsz10 hsz11 hsz14 hl5 c14 z14 s14 s12 s13 hcut hW4
  (go_at_call 31; rw [HW4.out]; refine CB.out.mono ?_; rintro e w15 ⟨rfl, o15⟩; have KE := Lib.hid (KW.out.trans (own_of_only o15 KW.out.size (fun q hq => HO0.out q (.inl hq)))); clear o15)
  rcases HPe.out with he | ⟨he, hp0⟩
  · go_wp2
    go_ret
    exact ⟨rfl, KE.out⟩
  · have hpl : ((P.length : Int) == 0) = true := by rw [hp0]; rfl
    clear hp0
    go_wp2
    go_ret
    exact ⟨rfl, KE.out⟩
#print axioms keeps_c
end Go.Proofs.Ytdpoifaeimmdmaa.Kp
