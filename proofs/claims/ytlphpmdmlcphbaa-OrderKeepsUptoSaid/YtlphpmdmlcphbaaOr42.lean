/- Seat E: OrderKeeps, walked. -/
import Derived.Test.YtlphpmdmlcphbaaOr43
namespace Go.Proofs.Ytlphpmdmlcphbaa.Or
open Go Go.RowKit Go.Proofs.Ytlphpmdmlcphbaa.Mem Go.Proofs.YtlphpmdmlcphbaaW.PrintWords Go.Maps Go.Proofs.Ytlphpmdmlcphbaa.Om
set_option linter.unusedVariables false
set_option linter.unusedSimpArgs false
set_option maxRecDepth 100000
set_option maxHeartbeats 2000000
theorem keeps_c (A : Option Addr) (c : Nat) (l : List Vo) (B : Option Addr) (d : Nat) (wl : List ByteArray) (D : Option Addr) (g : Nat) (hv : List ByteArray) (w : World) (hC : kV.C w A l.length l) (hc : l.length ≤ c) (hF : Fine l)
    (hW : Kd.string.C w B wl.length wl) (hWn : Names wl) (hH : Kd.string.C w D hv.length hv) (hg : hv.length ≤ g) (hHn : Names hv) :
    Calls Try.prog 6 #[.slice A l.length c, .slice B wl.length d, .slice D hv.length g] w fun e w' => e = .returned (.bool true) ∧ Below w.heap.size w w' := by
  obtain ⟨⟨o, x, e⟩, hr, hR⟩ := sortV_res hF wl hv (by have := hWn.2; omega)
  have hol : o.length ≤ 4194304 := by
    rcases hR.shape with ⟨_, _, h⟩ | ⟨h, _⟩
    · have := h.len; have := hF.2.2; omega
    · rw [h]; simp
  obtain ⟨⟨o2, x2, e2⟩, hr2, hR2⟩ := sortV_res hF (l.map (·.1)) [] (by rw [List.length_map]; exact hF.2.2)
  have hlev : e2 = 0 → LevOk l o2 := fun he => by
    rcases hR2.shape with ⟨_, _, h⟩ | ⟨_, h⟩
    · exact levOk_of (fun i hi u hu => (h.ord.use i hi u hu).resolve_right (by simp))
    · omega
  have hos : (∀ u ∈ o2, u.size ≤ maxLen) ∧ o2.length ≤ 4194304 := by
    rcases hR2.shape with ⟨_, _, h⟩ | ⟨h, _⟩
    · refine ⟨h.size hF (fun u hu => ?_), by have := h.len; have := hF.2.2; omega⟩
      obtain ⟨v, hv, rfl⟩ := List.mem_map.1 hu
      exact (hF.1 v hv).1
    · rw [h]; exact ⟨fun u hu => absurd hu List.not_mem_nil, Nat.zero_le _⟩
  have HCL := Lib.hid hC
  have HF := Lib.hid hF
  have HW := Lib.hid hW
  have HWN := Lib.hid hWn
  have HH := Lib.hid hH
  have HHN := Lib.hid hHn
  have HG := Lib.hid hg
  have HR := Lib.hid hr
  have HR2 := Lib.hid hr2
  have HLEV := Lib.hid hlev
  have HOS := Lib.hid hos
  have AW := Lib.hid (awake_c w)
  have hll : (l.length : Int) ≤ 4194304 := by have := hF.2.2; omega
  have hwl : (wl.length : Int) ≤ 1048576 := by have := hWn.2; omega
  clear hC hc hF hW hWn hH hHn hr hR hr2 hR2 hlev hos hg
  go_enter Try.func6, Try.ntmps6
  go_wp2_with (first
    | (go_at_call 7; with_reducible refine AW.out.mono ?_; rintro en w0 ⟨rfl, b0⟩; have B0 := Lib.hid b0; have VO := Lib.hid (vocabs_c A c l w0 (Kd.C_below HCL.out b0) HF.out); clear b0)
    | (go_at_call 9; with_reducible refine VO.out.mono ?_; rintro en w1 ⟨A1, c1, rfl, r1, b1⟩; have R1 := Lib.hid r1; have B1 := Lib.hid (B0.out.trans (b1.mono B0.out.size)); have OW := Lib.hid (own_c B d wl w1 (Kd.C_below HW.out B1.out) (by have := HWN.out.2; omega)); clear r1 b1)
    | (go_at_call 10; with_reducible refine OW.out.mono ?_; rintro en w2 ⟨v2, rfl, o2', b2⟩; obtain ⟨A2, c2, rfl⟩ := OwnS.slice o2'; have O2 := Lib.hid o2'; have BB2 := Lib.hid b2; have B2 := Lib.hid (B1.out.trans (b2.mono B1.out.size)); clear o2' b2)
    | ((with_reducible refine gate_builtin (b := .append) (xs := #[.tmp 24, .tmp 25]) rfl ?_); at_builtin; go_loud (refine Kd.R_append Kd.string (w0 := w1) (W := w2) w1.heap.size rfl (.tmp 24) (.tmp 25) 23 9 (.string ByteArray.empty) 16 rfl (by kernel_rfl) info9m rfl (by decide) (by decide) (.slice A2 wl.length c2) wl sp [.string sp] (fun _ => True) (fun _ => False) rfl rfl rfl (fun _ h => h.elim) (fun _ _ => trivial) (Kd.R_of_own O2.out (fun _ _ => trivial)) BB2.out BB2.out.size (by have := HWN.out.2; omega) ?_); intro v3 w3 r3 b3 g3 at3
       obtain ⟨A3, c3, rfl⟩ := Kd.R_slice r3
       have o3 : OwnS w3 w1.heap.size (.slice A3 (wl ++ [sp]).length c3) (wl ++ [sp]) := Kd.own_of_R r3
       have O3 := Lib.hid o3
       have BB3 := Lib.hid b3
       have B3 := Lib.hid (B1.out.trans (b3.mono B1.out.size))
       have p3 := prefix_reads o3
       have P3 := Lib.hid p3
       have hcw : wl.length ≤ c3 := (OwnS.reads p3).2.1
       have SO1 := Lib.hid (Sort_c A1 c1 l A3 c3 wl D g hv w3 ((VC_of_R R1.out).1.below b3) (VC_of_R R1.out).2 HF.out (OwnS.reads p3).1 (OwnS.reads p3).2.1 (OwnS.reads p3).2.2 ⟨HWN.out.1, by have := HWN.out.2; omega⟩ (Kd.C_below HH.out B3.out) HG.out ⟨HHN.out.1, by have := HHN.out.2; omega⟩ _ _ _ HR.out)
       clear r3 b3 g3 at3 o3 p3)
    | (go_at_call 8; with_reducible refine SO1.out.mono ?_; rintro en w4 ⟨v4, rfl, o4, b4⟩; obtain ⟨A4, c4, rfl⟩ := OwnS.slice o4; have O4 := Lib.hid o4; have BB4 := Lib.hid b4; have B4 := Lib.hid (B3.out.trans (b4.mono B3.out.size))
       have SO2 := Lib.hid (Sort_c A1 c1 l A3 c3 wl D g hv w4 ((VC_of_R R1.out).1.below (BB3.out.trans (b4.mono BB3.out.size))) (VC_of_R R1.out).2 HF.out (Kd.C_below (OwnS.reads P3.out).1 b4) (OwnS.reads P3.out).2.1 (OwnS.reads P3.out).2.2 ⟨HWN.out.1, by have := HWN.out.2; omega⟩ (Kd.C_below HH.out B4.out) HG.out ⟨HHN.out.1, by have := HHN.out.2; omega⟩ _ _ _ HR.out)
       clear o4 b4)
    | (go_at_call 8; with_reducible refine SO2.out.mono ?_; rintro en w5 ⟨v5, rfl, o5, b5⟩; obtain ⟨A5, c5, rfl⟩ := OwnS.slice o5; have O5 := Lib.hid o5; have BB5 := Lib.hid b5; have B5 := Lib.hid (B4.out.trans (b5.mono B4.out.size))
       have LE := Lib.hid (Levels_c A1 c1 l w5 ((VC_of_R R1.out).1.below ((BB3.out.trans (BB4.out.mono BB3.out.size)).trans (b5.mono (Nat.le_trans BB3.out.size BB4.out.size)))) (VC_of_R R1.out).2 HF.out o2 x2 e2 HR2.out HLEV.out ⟨HOS.out.1, by have := HOS.out.2; omega⟩)
       clear o5 b5)
    | (go_at_call 14; with_reducible refine LE.out.mono ?_; rintro en w6 ⟨ov, rfl, ⟨us, hlv⟩, b6⟩; obtain ⟨Al, cl, rfl⟩ := LV.slice hlv; have LVH := Lib.hid hlv; have BB6 := Lib.hid b6; have B6 := Lib.hid (B5.out.trans (b6.mono B5.out.size))
       have SA1 := Lib.hid (same_c A3 B c3 d wl wl w6 (Kd.C_below (OwnS.reads P3.out).1 ((BB4.out.trans (BB5.out.mono BB4.out.size)).trans (b6.mono (Nat.le_trans BB4.out.size BB5.out.size)))) (Kd.C_below HW.out B6.out) (by have := HWN.out.2; omega))
       clear hlv b6)
    | (go_at_call 12; with_reducible refine SA1.out.mono ?_; rintro en w7 ⟨rfl, b7⟩; have BB7 := Lib.hid b7; have B7 := Lib.hid (B6.out.trans (b7.mono B6.out.size))
       have B37 := Lib.hid (((BB4.out.trans (BB5.out.mono BB4.out.size)).trans (BB6.out.mono (Nat.le_trans BB4.out.size BB5.out.size))).trans (b7.mono (Nat.le_trans (Nat.le_trans BB4.out.size BB5.out.size) BB6.out.size)))
       obtain ⟨a3, hA3, ex3⟩ := name_at (Kd.C_below (OwnS.reads O3.out).1 B37.out) rfl wl.length (by simp)
       rw [List.getElem_append_right (Nat.le_refl _)] at ex3
       simp only [Nat.sub_self, List.getElem_cons_zero] at ex3
       subst hA3
       have SA2 := Lib.hid (same_c A4 A5 c4 c5 o o w7 (Kd.C_below (OwnS.reads O4.out).1 ((BB5.out.trans (BB6.out.mono BB5.out.size)).trans (b7.mono (Nat.le_trans BB5.out.size BB6.out.size)))) (Kd.C_below (OwnS.reads O5.out).1 (BB6.out.trans (b7.mono BB6.out.size))) (by omega))
       clear b7)
    | (go_at_call 12; with_reducible refine SA2.out.mono ?_; rintro en w8 ⟨rfl, b8⟩; have BB8 := Lib.hid b8; have B8 := Lib.hid (B7.out.trans (b8.mono B7.out.size)); clear b8)
    | fail)
  have B18 := Lib.hid (show Below w1.heap.size w1 w8 from (((BB3.out.trans (B37.out.mono BB3.out.size)).trans (BB8.out.mono (Nat.le_trans BB3.out.size B37.out.size))))) 
  go_loopg [17] l.length (fun mm iv wr => ∃ i : Nat, iv = .int .i64 i ∧ Aside1 (i + mm = l.length) ∧ Aside1 (Below w8.heap.size w8 wr))
  case atStart => exact ⟨0, rfl, ⟨by omega⟩, ⟨Below.refl _ _⟩⟩
  case round =>
    obtain ⟨i, rfl, ⟨hi⟩, ⟨hB⟩⟩ := hrel
    have HI := Lib.hid hi
    have B9 := Lib.hid hB
    have B10 := Lib.hid (B8.out.trans (hB.mono B8.out.size))
    have B19 := Lib.hid (B18.out.trans (hB.mono B18.out.size))
    clear hi hB
    have hil0 : (i : Int) ≤ 4194304 := by have := HI.out; omega
    by_cases hil : i < l.length
    · have hii : (i : Int) < (l.length : Int) := by omega
      obtain ⟨al, Au, cu, hAl, e1, e2', hCu, hcu⟩ := vocab_at HCL.out rfl i hil
      obtain ⟨ai, Bu, bu, hAi, f1, f2, hCb, hcb, hfb⟩ := (VC_of_R R1.out).1 i hil
      subst hAl
      subst hAi
      obtain ⟨nm, vs, hlk⟩ : ∃ nm vs, l[i] = (nm, vs) := ⟨_, _, rfl⟩
      have hmem : (nm, vs) ∈ l := hlk ▸ List.getElem_mem hil
      have hvl : vs.length ≤ 4194304 := by have h1 := HF.out.2.1; have h2 := le_tot hmem; dsimp only at h2; omega
      rw [hlk] at e1 e2' hCu hcu f1 f2 hCb hcb
      dsimp only at e1 e2' hCu hcu f1 f2 hCb hcb
      have q1 := (B10.out.cell (World.block_lt_of_cell? _ _ e1)).trans e1
      have q2 := (B10.out.cell (p := ⟨(al.add (i * 2)).block, (al.add (i * 2)).off + 1, none⟩) (World.block_lt_of_cell? _ _ e2')).trans e2'
      have q3 := (B19.out.cell (World.block_lt_of_cell? _ _ f1)).trans f1
      have q4 := (B19.out.cell (p := ⟨(ai.add (i * 2)).block, (ai.add (i * 2)).off + 1, none⟩) (World.block_lt_of_cell? _ _ f2)).trans f2
      have BD := Lib.hid (((Only.refl wr (fun _ => False)).drew).below_all)
      have HLT := Lib.hid (show ∀ (p : Addr) (v : Value), wr.cell? p = some v → ∀ w', Below wr.heap.size wr w' → w'.cell? p = some v from fun p v h w' hb => (hb.cell (World.block_lt_of_cell? _ _ h)).trans h)
      have HLT4 := Lib.hid (show ∀ w', Below wr.heap.size wr w' → w'.cell? (al.add (i * 2)) = some (.string nm) ∧ w'.cell? ⟨(al.add (i * 2)).block, (al.add (i * 2)).off + 1, none⟩ = some (.slice Au vs.length cu) ∧ w'.cell? (ai.add (i * 2)) = some (.string nm) ∧ w'.cell? ⟨(ai.add (i * 2)).block, (ai.add (i * 2)).off + 1, none⟩ = some (.slice Bu vs.length bu) from fun w' hb => ⟨HLT.out _ _ q1 _ hb, HLT.out _ _ q2 _ hb, HLT.out _ _ q3 _ hb, HLT.out _ _ q4 _ hb⟩)
      have SA3 := Lib.hid (same_c Bu Au bu cu vs vs wr.drew (Kd.C_below hCb (B19.out.trans (BD.out.mono B19.out.size))) (Kd.C_below hCu (B10.out.trans (BD.out.mono B10.out.size))) (by omega))
      have hbb : (nm.toList == nm.toList) = true := by simp
      clear e1 e2' hCu f1 f2 hCb hlk hmem
      go_wp2_with fail
      go_region_held3 (fun w' => w'.cell? (al.add (i * 2)) = some (.string nm) ∧ w'.cell? ⟨(al.add (i * 2)).block, (al.add (i * 2)).off + 1, none⟩ = some (.slice Au vs.length cu) ∧ w'.cell? (ai.add (i * 2)) = some (.string nm) ∧ w'.cell? ⟨(ai.add (i * 2)).block, (ai.add (i * 2)).off + 1, none⟩ = some (.slice Bu vs.length bu)) (exact HLT4.out _ (by first | exact BD.out | exact B11.out)) (first
        | (go_at_call 12; refine SA3.out.mono ?_; rintro en w9 ⟨rfl, b9⟩; have B11 := Lib.hid (BD.out.trans (b9.mono BD.out.size)); clear b9))
      all_goals
        go_wp2_with fail
        go_roundg (gk - 1)
        case measure => have := HI.out; omega
        case rel => exact ⟨i + 1, (by simp), ⟨by have := HI.out; omega⟩, ⟨B9.out.trans (B11.out.mono B9.out.size)⟩⟩
    · have hii : ¬ (i : Int) < (l.length : Int) := by omega
      have hz1 := BB3.out.size
      have hz2 := BB4.out.size
      have hz3 := BB5.out.size
      have hz4 := BB6.out.size
      have hz5 := BB7.out.size
      have hz6 := BB8.out.size
      have hz7 := B9.out.size
      have hz0 := B1.out.size
      have B69 : Below w6.heap.size w6 wr := (BB7.out.trans (BB8.out.mono hz5)).trans (B9.out.mono (Nat.le_trans hz5 hz6))
      have B59 : Below w5.heap.size w5 wr := BB6.out.trans (B69.mono hz4)
      have B49 : Below w4.heap.size w4 wr := BB5.out.trans (B59.mono hz3)
      have B39 : Below w3.heap.size w3 wr := BB4.out.trans (B49.mono hz2)
      have hout : ∀ r ∈ (if e2 = 0 then (levs l o2).2.map msort else []), r.length ≤ 4194304 := by
        intro r hr
        by_cases he : e2 = 0
        · rw [if_pos he] at hr
          obtain ⟨r', hr', rfl⟩ := List.mem_map.1 hr
          have h5 := (levs_len l o2.length o2 rfl).2 r' hr'
          have h7 := HOS.out.2
          rw [msort_len]
          omega
        · rw [if_neg he] at hr; cases hr
      have FOUR : Four wr w1.heap.size w3.heap.size w4.heap.size w5.heap.size w6.heap.size ((A4, o.length, c4) : SL) ((A5, o.length, c5) : SL) ((some a3, (wl ++ [sp]).length, c3) : SL) us := by
        refine ⟨Rg.mk' O4.out (by omega) B49 (Nat.le_refl _), Rg.mk' O5.out (by omega) B59 (Nat.le_refl _), Rg.mk' O3.out (by have := HWN.out.2; simp; omega) B39 (Nat.le_refl _), fun j p hj => ?_, fun i j a b hi hj hne q hq => ?_⟩
        · obtain ⟨hjl, rfl⟩ := List.getElem?_eq_some_iff.1 hj
          have hko : j < (if e2 = 0 then (levs l o2).2.map msort else []).length := by rw [← LVH.out.len]; exact hjl
          have h1 := LVH.out.at_ j hjl hko
          obtain ⟨Ai, ci, hv⟩ := OwnS.slice h1
          have hl2 := hout _ (List.getElem_mem hko)
          have hlen2 : us[j].2.1 = ((if e2 = 0 then (levs l o2).2.map msort else [])[j]'hko).length := by injection hv
          refine ⟨⟨_, OwnS.below h1 B69, hlen2.symm, by omega⟩, fun k hk => World.ownsRow.lt h1 k hk⟩
        · obtain ⟨hil', rfl⟩ := List.getElem?_eq_some_iff.1 hi
          obtain ⟨hjl', rfl⟩ := List.getElem?_eq_some_iff.1 hj
          exact LVH.out.dis i j hil' hjl' hne q hq
      have hul : us.length ≤ 4194304 := by
        have h1 := LVH.out.len
        by_cases he : e2 = 0
        · rw [if_pos he, List.length_map] at h1
          have h2 := (levs_len l o2.length o2 rfl).1
          have h3 := HOS.out.2
          omega
        · rw [if_neg he] at h1; simp at h1; rw [h1]; simp
      obtain ⟨hall, hdis⟩ := FOUR.all (by omega) hz2 hz3 hz4
      have hw3l : (wl ++ [sp]).length = wl.length + 1 := by simp
      rw [hw3l] at hall hdis
      have HALL := Lib.hid hall
      have HDIS := Lib.hid hdis
      have XR := (Blk.new wr 23 [.slice A4 o.length c4, .slice A5 o.length c5, .slice (some a3) (wl.length + 1) c3]).alloc (.cells #[.slice none 0 0, .slice none 0 0, .slice none 0 0, .slice (some ⟨wr.heap.size, 0, none⟩) 3 3] 46)
      have XB := Blk.new (wr.alloc (.cells #[.slice A4 o.length c4, .slice A5 o.length c5, .slice (some a3) (wl.length + 1) c3] 23)) 46 [.slice none 0 0, .slice none 0 0, .slice none 0 0, .slice (some ⟨wr.heap.size, 0, none⟩) 3 3]
      rw [World.size_alloc] at XB
      have WB := (((Only.refl wr (fun _ => False)).alloc (.cells #[.slice A4 o.length c4, .slice A5 o.length c5, .slice (some a3) (wl.length + 1) c3] 23)).alloc (.cells #[.slice none 0 0, .slice none 0 0, .slice none 0 0, .slice (some ⟨wr.heap.size, 0, none⟩) 3 3] 46)).below_all
      have HO : slc.R 23 ((wr.alloc (.cells #[.slice A4 o.length c4, .slice A5 o.length c5, .slice (some a3) (wl.length + 1) c3] 23)).alloc (.cells #[.slice none 0 0, .slice none 0 0, .slice none 0 0, .slice (some ⟨wr.heap.size, 0, none⟩) 3 3] 46)) wr.heap.size (fun _ => True) (.slice (some ⟨wr.heap.size, 0, none⟩) 3 3) [((A4, o.length, c4) : SL), ((A5, o.length, c5) : SL), ((some a3, wl.length + 1, c3) : SL)] :=
        Kd.R_of_own ⟨rfl, .inr ⟨wr.heap.size, 3, _, rfl, Nat.le_refl _, XR, Nat.le_refl _, by unfold maxLen; omega, rfl, rfl⟩⟩ (fun _ _ => trivial)
      obtain ⟨Al', cl', hsl, hcll, hCL⟩ := Kd.R_reads (Kd.R_of_own (enc := fun p : SL => Value.slice p.1 p.2.1 p.2.2) (h1 := fun _ => rfl) (ok := fun _ => True) (LVH.out.below B69).row (fun _ _ => trivial))
      injection hsl with e1 _ e2'
      subst e1
      subst e2'
      have HCL2 := Lib.hid (Kd.C_below hCL WB)
      have HO2 := Lib.hid HO
      have XB2 := Lib.hid XB
      have WB2 := Lib.hid WB
      have xb3 := XB.cell_at 3 _ rfl
      clear hCL HO XR XB WB hall hdis FOUR
      go_wp2_with (first
        | ((with_reducible refine gate_builtin (b := .append) (xs := #[.tmp 119, .tmp 120]) rfl ?_); at_builtin; go_loud (refine Kd.R_append_rows slc (w0 := wr) wr.heap.size rfl (.tmp 119) (.tmp 120) 37 23 (.slice none 0 0) 24 rfl (by kernel_rfl) info23m rfl (by decide) (by decide) (.slice (some ⟨wr.heap.size, 0, none⟩) 3 3) [((A4, o.length, c4) : SL), ((A5, o.length, c5) : SL), ((some a3, wl.length + 1, c3) : SL)] us Al us.length cl (fun _ => True) (fun _ => False) rfl rfl HO2.out HCL2.out (fun _ _ h => h) (fun _ h => h.elim) (fun _ _ => trivial) WB2.out WB2.out.size (by simp; omega) ?_); intro v7 w9 r7 b7' g7 at7
           obtain ⟨A7, c7, ev⟩ := Kd.R_slice r7
           obtain ⟨n7, hn7⟩ : ∃ n7, n7 = ([((A4, o.length, c4) : SL), ((A5, o.length, c5) : SL), ((some a3, wl.length + 1, c3) : SL)] ++ us).length := ⟨_, rfl⟩
           rw [← hn7] at ev
           subst ev
           have HN7 := Lib.hid hn7
           have R7 := Lib.hid r7
           have G7 := Lib.hid g7
           have BB9 := Lib.hid b7'
           have xb : Blk w9 (wr.heap.size + 1) 46 [.slice none 0 0, .slice none 0 0, .slice none 0 0, .slice (some ⟨wr.heap.size, 0, none⟩) 3 3] := XB2.out.keep (Only.of_grown g7) (fun h => by simp [Value.ownBlock] at h)
           have xb9 := xb.cell_at 3 _ rfl
           have xf9 := xb.frozen 3
           have XB9 := Lib.hid xb
           have hkeep : ∀ k, k < wr.heap.size → (w9.setCell ⟨wr.heap.size + 1, 3, none⟩ (.slice A7 n7 c7)).heap[k]? = wr.heap[k]? := fun k hk => (Below.heap_setCell w9 ⟨wr.heap.size + 1, 3, none⟩ (.slice A7 n7 c7) k (fun e => by have e : k = wr.heap.size + 1 := e; omega)).trans (BB9.out.block k hk)
           have hbel : Below w.heap.size w (w9.setCell ⟨wr.heap.size + 1, 3, none⟩ (.slice A7 n7 c7)) := (B10.out.trans (BB9.out.mono B10.out.size)).trans (((Only.refl w9 (fun k => k = wr.heap.size + 1)).setCell (p := ⟨wr.heap.size + 1, 3, none⟩) (fun _ => rfl) (.slice A7 n7 c7)).below (B := w.heap.size) (Nat.le_trans B10.out.size BB9.out.size) (fun k hk e => by have := B10.out.size; omega))
           have BC := Lib.hid (book_c w wr (w9.setCell ⟨wr.heap.size + 1, 3, none⟩ (.slice A7 n7 c7)) (wr.heap.size + 1) A7 c7 n7 w1.heap.size w6.heap.size (((A4, o.length, c4) : SL) :: ((A5, o.length, c5) : SL) :: ((some a3, wl.length + 1, c3) : SL) :: us) HALL.out HDIS.out (by omega) hz0 (by omega) hn7 (by simp; omega) hkeep (Nat.le_trans BB9.out.size (by simp)) (Nat.le_succ _) (xb.set_ 3 (.slice A7 n7 c7)) (Kd.R_set r7 (show w9.heap[wr.heap.size + 1]? = _ from xb) (by decide) 3 (.slice A7 n7 c7)) hbel)
           clear r7 g7 b7' at7 xb hkeep hbel hn7)
        | (go_at_call 16; with_reducible refine BC.out.mono ?_; rintro en w10 ⟨rfl, b10⟩; have B20 := Lib.hid b10; clear b10)
        | fail)
      go_ret
      exact ⟨rfl, B20.out⟩
end Go.Proofs.Ytlphpmdmlcphbaa.Or
