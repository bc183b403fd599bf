/- Texts merged: a section each. -/
import Derived.Test.YtochnokfcfmgnaaML
import Derived.Test.YtochnokfcfmgnaaMD
import Derived.Test.YtochnokfcfmgnaaMF
import Derived.Test.YtochnokfcfmgnaaME
section
/- Seat F: commit, walked, on a disk of any life. -/
namespace Go.Proofs.Ytochnokfcfmgnaa.St
open Go Go.RowKit Go.Proofs.Ytochnokfcfmgnaa.Mem Go.Proofs.YtochnokfcfmgnaaW.PrintWords Go.Proofs.Ytochnokfcfmgnaa.Dk Go.Maps Go.ChangeMaps Go.Proofs.Ytochnokfcfmgnaa.Sh Go.Proofs.Ytochnokfcfmgnaa.Sp Go.Proofs.Ytochnokfcfmgnaa.Pg
set_option linter.unusedVariables false
set_option linter.unusedSimpArgs false
set_option maxRecDepth 100000
set_option maxHeartbeats 16000000
attribute [local go_sem] Go.Proofs.YtochnokfcfmgnaaW.PrintMore.min_two
/-- A store whose disk has so much life left. -/
def lv (S : SV) (l : Int) : SV := { S with x := S.x.live l }
/-- What the disk is behind the pages of a commit. -/
noncomputable def preV (S : SV) (data tabs : List Int) : SV := tw (fw S data (freshN S.now).length) (tab S.now data).1 tabs tabs.length
/-- What a disk may be that died within a commit. -/
def Mid (S : SV) (data tabs : List Int) (y : DV) : Prop :=
  (∃ k i, k < (freshN S.now).length ∧ i < 4 ∧ y = pgN (fw S data k).x (data.getD k 0).toNat (Hand.packed (idV ((freshN S.now).getD k 0)) (dataOf (fw S data k).now ((freshN S.now).getD k 0))) i) ∨
  (∃ j i, j < tabs.length ∧ i < 4 ∧ y = pgN (tw (fw S data (freshN S.now).length) (tab S.now data).1 tabs j).x (tabs.getD j 0).toNat (Hand.packed 2 (tabPart (tab S.now data).1 tabs j)) i) ∨
  y = (preV S data tabs).x ∨ y = (preV S data tabs).x.barrier ∨ y = (preV S data tabs).x.barrier.write (4 * (1 - S.root).toNat) (rootB (cmV S data tabs))
theorem St.sblk {w w' : World} {own : Nat → Nat} {base g s : Nat} {S : SV} (h : St w own base g s S) {T : Nat → Prop} (ho : Only w w' T) (hT : ∀ k, own k = 3 → ¬ T k) : ∃ cs, Blk w' s 76 cs ∧ cs.length = 7 := by
  obtain ⟨_, _, _, h1, h2, _⟩ := h.blk
  exact ⟨_, h1.keep ho (hT s h2), rfl⟩
/-- What commit says in the end. -/
def CmQ (l : Int) (w : World) (own : Nat → Nat) (base g s : Nat) (S : SV) (data tabs : List Int) (e : Ending) (w' : World) : Prop :=
  ∃ (r : Bool) (y : DV) (l' : Int), e = .returned (.bool r) ∧ IsDisk w' base (fun b => own b = 1 ∨ w.heap.size ≤ b) g (y.live l') ∧ Only w w' (fun k => own k = 1 ∨ own k = 3) ∧ (∃ cs, Blk w' s 76 cs ∧ cs.length = 7) ∧ 0 ≤ l' ∧ l' ≤ l ∧ ((r = true ∧ 0 < l ∧ y = (cmV S data tabs).x) ∨ (r = false ∧ Mid S data tabs y))
theorem commit_l {w : World} {own : Nat → Nat} {base g s n : Nat} {S : SV} {l : Int} (h : St w own base g s (lv S l)) (hl0 : 0 ≤ l) (hlm : l ≤ 9223372036854775807) (hO : Ok n S) (dv tv : Value) (data tabs : List Int) (hdv : Row w (fun k => own k = 2) .i64 dv data) (htv : Row w (fun k => own k = 2) .i64 tv tabs) (hd : ∀ p ∈ data, 2 ≤ p ∧ p < ((n / 4 : Nat) : Int)) (ht : ∀ p ∈ tabs, 2 ≤ p ∧ p < ((n / 4 : Nat) : Int))
    (hdl : data.length = (freshN S.now).length) (htl : tabs.length ≤ 1000) (hep : S.epoch + 1 < 18446744073709551616) :
    Calls Try.prog 43 #[.pointer (some ⟨s, 0, none⟩), dv, tv] w fun e w' => CmQ l w own base g s S data tabs e w' := by
  have H0 := Lib.hid h
  have HO := Lib.hid hO
  have HD := Lib.hid hd
  have HT := Lib.hid ht
  have hfl := freshN_len S.now
  obtain ⟨fr, hfr⟩ : ∃ fr, fr = (freshN S.now).length := ⟨_, rfl⟩
  rw [← hfr] at hdl hfl
  have hc1 : n / 4 ≤ 100 := by have := hO.n2; omega
  have HSM := Lib.hid (hO.small (pl := data) (fun y hy => by have := hd y hy; omega))
  obtain ⟨Ad, cd, rfl, hdc, hCd, _⟩ := hdv.reads
  obtain ⟨At, ct, rfl, htc, hCt, _⟩ := htv.reads
  have TB := Lib.hid (table_c h Ad cd data hCd hdc HSM.out)
  have HDV := Lib.hid hdv
  have HTV := Lib.hid htv
  obtain ⟨bs, hbs⟩ : ∃ bs, bs = (tab S.now data).1 := ⟨_, rfl⟩
  have hbl := tab_len HSM.out
  have hbb := tab_byte S.now data
  rw [← hbs] at hbl hbb
  have HBB := Lib.hid hbb
  obtain ⟨fl, hfle⟩ : ∃ fl, fl = (freshN S.now).map Int.ofNat := ⟨_, rfl⟩
  have hfll : fl.length = fr := by rw [hfle, List.length_map, hfr]
  simp only [show (lv S l).now = S.now from rfl] at TB
  rw [← hbs, ← hfle] at TB
  have HBS := Lib.hid hbs
  have HFL := Lib.hid hfle
  have HFR := Lib.hid hfr
  have HEP := Lib.hid hep
  have HDL := Lib.hid hdl
  have HFLL := Lib.hid hfll
  have hfri : (fr : Int) ≤ 728 := by omega
  clear h hO hd ht hdv htv hCd hCt hbs hbb hfle hfr hep hdl hfll
  go_enter Try.func43, Try.ntmps43
  go_wp2_with (first
    | (go_at_call 57; refine TB.out.mono ?_; rintro e w1 ⟨bv, fv, rfl, r1, r2, b1⟩
       have RB := Lib.hid (Row.of_R (Kd.R_bound r1) (by omega))
       have RF := Lib.hid (Row.of_R (Kd.R_bound r2) (by have := HFLL.out; omega))
       obtain ⟨Ab, cb, rfl⟩ := Kd.R_slice r1
       obtain ⟨Af, cf, rfl⟩ := Kd.R_slice r2
       have B1 := Lib.hid b1
       rw [HFLL.out] at RF ⊢
       clear r1 r2 b1)
    | fail)
  have BW1 := B1
  have S1 := Lib.hid (H0.out.below B1.out 2)
  obtain ⟨own1, how⟩ : ∃ own1, own1 = upd own w.heap.size 2 := ⟨_, rfl⟩
  have RB1 := Lib.hid (show Row w1 (fun k => own1 k = 2) .u8 (.slice Ab bs.length cb) bs from RB.out.mono (fun b _ hb => by rw [how]; exact upd_ge hb.2.1))
  have RF1 := Lib.hid (show Row w1 (fun k => own1 k = 2) .i64 (.slice Af fr cf) fl from RF.out.mono (fun b _ hb => by rw [how]; exact upd_ge hb.2.1))
  have RD1 := Lib.hid (show Row w1 (fun k => own1 k = 2) .i64 (.slice Ad data.length cd) data from ((HDV.out.mono (ok' := fun k => own k = 2 ∧ k < w.heap.size) (fun b hb h => ⟨h, hb⟩)).keep (Only.of_below B1.out (fun _ => False)) (fun _ _ h => h)).mono (fun b _ hb => by rw [how, upd_lt hb.2]; exact hb.1))
  have RT1 := Lib.hid (show Row w1 (fun k => own1 k = 2) .i64 (.slice At tabs.length ct) tabs from ((HTV.out.mono (ok' := fun k => own k = 2 ∧ k < w.heap.size) (fun b hb h => ⟨h, hb⟩)).keep (Only.of_below B1.out (fun _ => False)) (fun _ _ h => h)).mono (fun b _ hb => by rw [how, upd_lt hb.2]; exact hb.1))
  rw [← how] at S1
  have HOW := Lib.hid how
  clear RB RF HDV HTV how
  go_loopg [23] fr (fun mm iv wr => ∃ (k : Nat) (l1 : Int), iv = .int .i64 k ∧ Aside1 (0 ≤ l1 ∧ l1 ≤ l) ∧ Aside1 (k + mm = fr) ∧ Aside1 (∃ own', (∀ k, k < w1.heap.size → own' k = own1 k) ∧ St wr own' base g s (lv (fw S data k) l1)) ∧ Aside1 (Only w1 wr (fun k => own1 k = 1 ∨ own1 k = 3)))
  case atStart => exact ⟨0, l, rfl, ⟨hl0, Int.le_refl _⟩, ⟨by omega⟩, ⟨own1, fun _ _ => rfl, S1.out⟩, ⟨Only.refl _ _⟩⟩
  case round =>
    obtain ⟨k, l1, rfl, ⟨hlr1⟩, ⟨hkm⟩, ⟨own', how', hSt⟩, ⟨hOn⟩⟩ := hrel
    have LR1 := Lib.hid hlr1
    clear hlr1
    have KM := Lib.hid hkm
    have SR := Lib.hid hSt
    have OW := Lib.hid how'
    have ON := Lib.hid hOn
    have hkf : k ≤ fr := by omega
    have hk0 : (k : Int) ≤ 728 := by omega
    clear hkm hSt how' hOn
    have n12 : ∀ b, own1 b = 2 → ¬ (own1 b = 1 ∨ own1 b = 3) := fun b h h2 => by rw [h] at h2; rcases h2 with h2 | h2 <;> cases h2
    have RFr := RF1.out.keep ON.out n12
    have RDr := RD1.out.keep ON.out n12
    by_cases hk : k < fr
    · have hki : (k : Int) < (fr : Int) := by omega
      have hkd : k < data.length := by have := HDL.out; omega
      have hkfl : k < fl.length := by have := HFLL.out; omega
      have hkfn : k < (freshN S.now).length := by rw [← HFR.out]; exact hk
      obtain ⟨Af', cf', hv1, _, hCf, _⟩ := RFr.reads
      injection hv1 with hA1 hl1 hc1'
      subst hA1
      subst hc1'
      clear hl1
      obtain ⟨af, rfl, e1⟩ := int_at hCf k hkfl
      obtain ⟨q, hq⟩ : ∃ q, (freshN S.now)[k] = q := ⟨_, rfl⟩
      have hqf : fl[k] = (q : Int) := by
        have h1 : fl[k]? = some (q : Int) := by rw [HFL.out, List.getElem?_map, List.getElem?_eq_getElem hkfn, hq]; rfl
        rw [List.getElem?_eq_getElem hkfl] at h1
        injection h1
      rw [hqf] at e1
      have CM := fw_ok HO.out HD.out k (by omega) (by omega)
      obtain ⟨hq7, p, hp, hpd, hpl, hpb⟩ := CM.at_ HO.out (hq ▸ List.getElem_mem hkfn)
      obtain ⟨Ad', cd', hv2, _, hCd2, _⟩ := RDr.reads
      injection hv2 with hA2 hl2 hc2'
      subst hA2
      subst hc2'
      (try clear hl2)
      obtain ⟨adr, rfl, e2⟩ := int_at hCd2 k hkd
      obtain ⟨a, ha⟩ : ∃ a : Nat, data[k] = (a : Int) := ⟨(data[k]).toNat, by have := HD.out _ (List.getElem_mem hkd); omega⟩
      have hac := HD.out _ (List.getElem_mem hkd)
      rw [ha] at e2 hac
      have hac2 : a < n / 4 := by omega
      have hqi : (q : Int) < 728 := by omega
      obtain ⟨bk, bn, tv, hs, o1, o2, o3, o4, o5, o6, m, hm, hdom, hat⟩ := SR.out.blk
      have hq2 : PgAt wr (fun k => own' k = 2) (m (q : Int)) ((fw S data k).now q) := hat q
      rw [hp] at hq2
      obtain ⟨pv, hpv, hprow⟩ := hq2
      obtain ⟨Ap, cp, rfl, hpc, hCp, _⟩ := hprow.reads
      have hrun := hm.look (q : Int) (Rg.of (by omega) (by omega))
      rw [hpv] at hrun
      simp only [Option.getD_some] at hrun
      have c0 := hs.cell_at 0 _ rfl
      have c5 := hs.cell_at 5 _ rfl
      have hfe : fw S data (k + 1) = { fw S data k with x := pgN (fw S data k).x a (Hand.packed (idV q) p.2) 4, now := fun j => if j = q then some (a, p.2) else (fw S data k).now j } := by
        have e3 : (freshN S.now).getD k 0 = q := by rw [List.getD_eq_getElem?_getD, List.getElem?_eq_getElem hkfn, hq]; rfl
        have e4 : (data.getD k 0).toNat = a := by rw [List.getD_eq_getElem?_getD, List.getElem?_eq_getElem hkd, ha]; rfl
        conv => lhs; unfold fw
        rw [e3, e4, hpd]
      have HFE := Lib.hid hfe
      have HYE := Lib.hid (show ∀ i, pgN (fw S data k).x a (Hand.packed (idV q) p.2) i = pgN (fw S data k).x (data.getD k 0).toNat (Hand.packed (idV ((freshN S.now).getD k 0)) (dataOf (fw S data k).now ((freshN S.now).getD k 0))) i from fun i => by
        have e3 : (freshN S.now).getD k 0 = q := by rw [List.getD_eq_getElem?_getD, List.getElem?_eq_getElem hkfn, hq]; rfl
        have e4 : (data.getD k 0).toNat = a := by rw [List.getD_eq_getElem?_getD, List.getElem?_eq_getElem hkd, ha]; rfl
        rw [e3, e4, hpd])
      have HCM := Lib.hid CM
      have ownS : own' s = 3 := o1
      have ob : ∀ b, own1 b = 2 → b < w1.heap.size → ¬ own' b = 1 := fun b h hb h2 => by rw [OW.out b hb, h] at h2; cases h2
      have hadb : adr.block < wr.heap.size ∧ ¬ own' adr.block = 1 := by
        obtain ⟨A', c', hv, _, _, hx⟩ := RDr
        injection hv with hA _ _
        rcases hx with ⟨h1, _⟩ | ⟨b, o, h1, h2, h3, _⟩
        · rw [h1] at hA; cases hA
        · rw [h1] at hA
          injection hA with hA
          subst hA
          refine ⟨h3, ?_⟩
          obtain ⟨A2, c2, hv2', _, _, hx2⟩ := RD1.out
          injection hv2' with hA2 _ _
          rcases hx2 with ⟨h4, _⟩ | ⟨b2, o2', h4, h5, h6, _⟩
          · rw [h4] at hA2; cases hA2
          · rw [h4] at hA2
            injection hA2 with hA2
            injection hA2 with hA2 _ _
            subst hA2
            exact ob b h5 h6
      have HLT := Lib.hid (show ∀ w', Only wr w' (fun b => own' b = 1) → w'.cell? ⟨s, 0, none⟩ = some (.pointer (some ⟨g, 0, none⟩)) ∧ w'.cell? ⟨s, 5, none⟩ = some (.map (some bn)) ∧ w'.cell? (adr.add k) = some (.int .i64 (a : Int)) ∧ (Instr.lookup 74 (.map (some bn)) (.int .i64 (q : Int)) false).run Try.prog w' = .ok (.agg #[.int .i64 (p.1 : Int), .slice Ap p.2.length cp]) w' from fun w' ho => by
        have hs' := hs.keep ho (by rw [ownS]; decide)
        have hm' := hm.step ho (by rw [o3]; decide)
        have hr' := hm'.look (q : Int) (Rg.of (by omega) (by omega))
        rw [hpv] at hr'
        simp only [Option.getD_some] at hr'
        exact ⟨hs'.cell_at 0 _ rfl, hs'.cell_at 5 _ rfl, (ho.cell (p := adr.add k) (by rw [block_of_add]; exact hadb.1) (by rw [block_of_add]; exact hadb.2)).trans e2, hr'⟩)
      have PW := Lib.hid (show ∀ W, Below wr.heap.size wr W → Calls Try.prog 60 #[.pointer (some ⟨g, 0, none⟩), .int .i64 (a : Int), .int .u32 (idV q), .slice Ap p.2.length cp] W fun e w' => PwQ l wr base (fun b => own' b = 1) g (fw S data k).x a (Hand.packed (idV q) p.2) e w' from fun W hb => by
        have hdk := SR.out.disk.bound.keep (Only.of_below hb (fun _ => False)) (fun _ _ h => h)
        refine (pwrite_l (x := (fw S data k).x) (l := l1) (M := l) (Lib.hid hdk) LR1.out.1 LR1.out.2 hlm (Lib.hid HCM.out.good) (Nat.le_trans SR.out.hb hb.size) (Lib.hid HCM.out.life) (by rw [HCM.out.pend]; omega) a hac2 (idV q) (idV_range hq7) Ap cp p.2 (Lib.hid (Kd.C_below hCp hb)) hpc (Lib.hid hpb) hpl).mono ?_
        rintro e w' ⟨r, i, l2, rfl, h1, h2, h3⟩
        exact ⟨r, i, l2, rfl, h1.mono (fun b hb' => by rcases hb' with h | h; exact .inl h.1; exact .inr (Nat.le_trans hb.size h)), (Only.of_below hb (fun b => own' b = 1)).step h2 (fun b hb' h => h.1), h3⟩)
      have BD := Lib.hid (((Only.refl wr (fun _ => False)).drew).below_all)
      have OD := Lib.hid ((Only.refl wr (fun b => own' b = 1)).drew)
      have hfd0 := field0
      have hfd1 := field1
      have HPV := Lib.hid hpv
      have HM := Lib.hid hm
      have HDM := Lib.hid hdom
      have HAT := Lib.hid hat
      have HSB := Lib.hid hs
      have HPR := Lib.hid hprow
      have O6 := Lib.hid o5
      have O7 := Lib.hid o6
      clear RFr RDr hCf hCd2 hfe CM hq hqf ha hac hp hpd hpb hs hm hdom hat hpv hprow hCp c0 c5 hrun ob hadb o5 o6 e2
      go_wp2_with fail
      go_region_held3 (fun w' => w'.cell? ⟨s, 0, none⟩ = some (.pointer (some ⟨g, 0, none⟩)) ∧ w'.cell? ⟨s, 5, none⟩ = some (.map (some bn)) ∧ w'.cell? (adr.add k) = some (.int .i64 (a : Int)) ∧ (Instr.lookup 74 (.map (some bn)) (.int .i64 (q : Int)) false).run Try.prog w' = .ok (.agg #[.int .i64 (p.1 : Int), .slice Ap p.2.length cp]) w') (exact HLT.out _ (by first | exact OD.out | exact O3.out | exact O4.out)) (first
        | (go_at_call 61; refine (id_c q hq7 _).mono ?_; rintro e w3 ⟨rfl, nd, hw3⟩; have B3 := Lib.hid (show Below wr.heap.size wr w3 by rw [hw3]; exact (((Only.refl wr (fun _ => False)).drew).drewN nd).below_all); have O3 := Lib.hid (Only.of_below B3.out (fun b => own' b = 1)); clear hw3)
        | (go_at_call 60; refine (PW.out _ B3.out).mono ?_; rintro e w4 ⟨r4, i4, l4, rfl, d4, o4, h4⟩; have D4 := Lib.hid d4; have O4 := Lib.hid o4; have H4 := Lib.hid h4; clear d4 o4 h4)
        | fail)
      all_goals
        obtain ⟨r5, hr5⟩ : ∃ r5, r5 = r4 := ⟨_, rfl⟩
        rcases H4.out with ⟨qa, qb, ⟨rfl, rfl⟩ | ⟨rfl, hi4⟩⟩
        case inr =>
          go_wp2_with fail
          go_ret
          have q1 : ∀ b, b < w.heap.size → own1 b = own b := fun b hb => by rw [HOW.out, upd_lt hb]
          have q2 : ∀ b, b < w.heap.size → own' b = own b := fun b hb => (OW.out b (by have := B1.out.size; omega)).trans (q1 b hb)
          have zz := Nat.le_trans B1.out.size ON.out.size
          have X1 : Only w wr (fun b => own b = 1 ∨ own b = 3) := (Only.of_below B1.out (fun b => own b = 1 ∨ own b = 3)).step ON.out (fun b hb h => by rw [q1 b hb] at h; exact h)
          refine ⟨false, _, l4, rfl, D4.out.mono (fun b hb => ?_), X1.step O4.out (fun b hb h => by rw [q2 b hb] at h; exact .inl h), SR.out.sblk O4.out (fun b h h2 => by rw [h] at h2; cases h2), qa, qb, .inr ⟨rfl, .inl ⟨k, i4, by rw [← HFR.out]; exact hk, hi4, HYE.out i4⟩⟩⟩
          rcases hb with hb | hb
          · by_cases hbw : b < w.heap.size
            · exact .inl (by rw [← q2 b hbw]; exact hb)
            · exact .inr (by omega)
          · exact .inr (Nat.le_trans zz hb)
        case inl =>
          obtain ⟨x0, x5, xd, _⟩ := HLT.out w4 O4.out
          obtain ⟨_, _, _, xl⟩ := HLT.out w4.drew O4.out.drew
          have M4 := (HM.out.step O4.out (by rw [o3]; decide)).drew
          obtain ⟨w5, hup, hm5, ho5⟩ := M4.update 728 HDM.out (by decide) (q : Int) (Rg.of (by omega) (by omega)) (.agg #[.int .i64 (a : Int), .slice Ap p.2.length cp])
          have M5 := Lib.hid hm5
          have O5 := Lib.hid ho5
          clear M4 hm5 ho5
          go_wp2_with fail
          go_region
          go_wp2_with fail
          have hzz := O4.out.size
          have O45 : Only wr w5 (fun b => own' b = 1 ∨ own' b = 3) := (O4.out.drew.mono (fun b _ h => .inl h)).step (O5.out) (fun b _ h => .inr (by rw [h]; exact o3))
          have O15 := Lib.hid (ON.out.step O45 (fun b hb h => by rw [OW.out b hb] at h; exact h))
          obtain ⟨own5, h51, h52⟩ := SR.out.page_step D4.out O4.out HSB.out o1 HM.out o3 q a p.2 _ hq7 HPR.out M5.out O5.out
          have h52 : St w5 own5 base g s (lv (fw S data (k + 1)) l4) := by rw [HFE.out]; exact h52
          have hzz := ON.out.size
          have SF := Lib.hid (show ∃ own', (∀ k, k < w1.heap.size → own' k = own1 k) ∧ St w5 own' base g s (lv (fw S data (k + 1)) l4) from ⟨own5, fun b hb => (h51 b (by omega)).trans (OW.out b hb), h52⟩)
          clear O45 h51 h52
          go_roundg (gk - 1)
          case measure => have := KM.out; omega
          case rel => exact ⟨k + 1, l4, (by simp), ⟨qa, qb⟩, ⟨by have := KM.out; omega⟩, ⟨SF.out⟩, ⟨O15.out⟩⟩
    · have hki : ¬ (k : Int) < (fr : Int) := by omega
      obtain rfl : k = fr := by omega
      have CMA := Lib.hid (fw_ok HO.out HD.out k (by have := HDL.out; omega) (by have := HFR.out; omega))
      obtain ⟨wA, hwA⟩ : ∃ wA, wA = wr := ⟨_, rfl⟩
      subst hwA
      obtain ⟨T, hTe⟩ : ∃ T, T = fw S data k := ⟨_, rfl⟩
      rw [← hTe] at SR CMA
      have HTE := Lib.hid hTe
      have RBA := Lib.hid (RB1.out.keep ON.out n12)
      have RTA := Lib.hid (RT1.out.keep ON.out n12)
      have hrt : ∀ b, own1 b = 2 → b < w1.heap.size → ¬ own' b = 1 := fun b h hb h2 => by rw [OW.out b hb, h] at h2; cases h2
      have hszA : w1.heap.size ≤ wA.heap.size := ON.out.size
      have RBA2 := Lib.hid (show Row wA (fun b => own' b = 2) .u8 (.slice Ab bs.length cb) bs from (RB1.out.mono (ok' := fun b => own1 b = 2 ∧ b < w1.heap.size) (fun b hb h => ⟨h, hb⟩)).keep ON.out (fun b hb => n12 b hb.1) |>.mono (fun b _ hb => (OW.out b hb.2).trans hb.1))
      have RTA2 := Lib.hid (show Row wA (fun b => own' b = 2) .i64 (.slice At tabs.length ct) tabs from (RT1.out.mono (ok' := fun b => own1 b = 2 ∧ b < w1.heap.size) (fun b hb h => ⟨h, hb⟩)).keep ON.out (fun b hb => n12 b hb.1) |>.mono (fun b _ hb => (OW.out b hb.2).trans hb.1))
      clear RFr RDr n12 hTe hrt RB1 RF1 RD1 RT1 S1 RBA RTA
      have htli : (tabs.length : Int) ≤ 1000 := by omega
      go_wp2_with fail
      go_loopg [67] tabs.length (fun mm iv wr => ∃ (j : Nat) (l2 : Int), iv = .int .i64 j ∧ Aside1 (0 ≤ l2 ∧ l2 ≤ l) ∧ Aside1 (j + mm = tabs.length) ∧ Aside1 (∃ own'', (∀ b, b < wA.heap.size → own'' b = own' b) ∧ St wr own'' base g s (lv (tw T bs tabs j) l2)) ∧ Aside1 (Only wA wr (fun b => own' b = 1)))
      case atStart => exact ⟨0, l1, rfl, ⟨LR1.out⟩, ⟨by omega⟩, ⟨own', fun _ _ => rfl, SR.out⟩, ⟨Only.refl _ _⟩⟩
      case round =>
        obtain ⟨j, l2, rfl, ⟨hlr2⟩, ⟨hjm⟩, ⟨own'', how'', hSt⟩, ⟨hOn⟩⟩ := hrel
        have LR2 := Lib.hid hlr2
        clear hlr2
        have JM := Lib.hid hjm
        have ST := Lib.hid hSt
        have OW2 := Lib.hid how''
        have ON2 := Lib.hid hOn
        have hj0 : (j : Int) ≤ 1000 := by omega
        have hjt : j ≤ tabs.length := by omega
        clear hjm hSt how'' hOn
        have n21 : ∀ b, own' b = 2 → ¬ own' b = 1 := fun b h h2 => by rw [h] at h2; cases h2
        have RBr := RBA2.out.keep ON2.out n21
        have RTr := RTA2.out.keep ON2.out n21
        have CT := tw_ok CMA.out HBB.out HT.out j hjt
        obtain ⟨bk, bn, tv, hs, o1, o2, o3, o4, _, _, _⟩ := ST.out.blk
        simp only [show (lv (tw T bs tabs j) l2).root = (tw T bs tabs j).root from rfl, show (lv (tw T bs tabs j) l2).epoch = (tw T bs tabs j).epoch from rfl] at hs
        have c0 := hs.cell_at 0 _ rfl
        by_cases hj : j < tabs.length
        · have hji : (j : Int) < (tabs.length : Int) := by omega
          obtain ⟨At', ct', hv1, _, hCt, _⟩ := RTr.reads
          injection hv1 with hA1 hl1 hc1'
          subst hA1
          subst hc1'
          (try clear hl1)
          obtain ⟨atr, rfl, e1⟩ := int_at hCt j hj
          obtain ⟨t, hte⟩ : ∃ t : Nat, tabs[j] = (t : Int) := ⟨(tabs[j]).toNat, by have := HT.out _ (List.getElem_mem hj); omega⟩
          have htc2 := HT.out _ (List.getElem_mem hj)
          rw [hte] at e1 htc2
          have htn : t < n / 4 := by omega
          obtain ⟨Lx, hLx⟩ : ∃ Lx, Lx = leB (tabs.getD (j + 1) 0) 4 := ⟨_, rfl⟩
          have hLl : Lx.length = 4 := by rw [hLx, leB_len]
          obtain ⟨lo, hlo⟩ : ∃ lo : Nat, lo = min bs.length (j * 112) := ⟨_, rfl⟩
          obtain ⟨hi, hhi⟩ : ∃ hi : Nat, hi = min bs.length ((j + 1) * 112) := ⟨_, rfl⟩
          obtain ⟨pt, hpt⟩ : ∃ pt, pt = (bs.take hi).drop lo := ⟨_, rfl⟩
          have hTP : Lx ++ pt = tabPart bs tabs j := by
            unfold tabPart
            rw [hLx, hpt, hhi, hlo, List.take_eq_take_iff.2 (show min (min bs.length ((j + 1) * 112)) bs.length = min ((j + 1) * 112) bs.length by omega)]
            congr 1
            by_cases hc : j * 112 ≤ bs.length
            · rw [Nat.min_eq_right hc]
            · rw [Nat.min_eq_left (by omega), List.drop_eq_nil_of_le (by rw [List.length_take]; omega), List.drop_eq_nil_of_le (by rw [List.length_take]; omega)]
          have HTP := Lib.hid hTP
          obtain ⟨m1, hm1⟩ : ∃ m1 : Nat, m1 = j * 112 := ⟨_, rfl⟩
          obtain ⟨m2, hm2⟩ : ∃ m2 : Nat, m2 = (j + 1) * 112 := ⟨_, rfl⟩
          have hw1 : IntKind.i64.wrap ((j : Int) * 112) = (m1 : Int) := by rw [wrap64_id (by omega) (by omega)]; omega
          have hw2 : IntKind.i64.wrap (IntKind.i64.wrap ((j : Int) + 1) * 112) = (m2 : Int) := by rw [wrap64_id (x := (j : Int) + 1) (by omega) (by omega), wrap64_id (by omega) (by omega)]; omega
          have hmi1 : Builtin.min2 (.int .i64 (bs.length : Int)) (.int .i64 (m1 : Int)) = pure (.int .i64 (lo : Int)) := by
            rw [Go.Proofs.YtochnokfcfmgnaaW.PrintMore.min2_int]
            congr 2
            split <;> omega
          have hmi2 : Builtin.min2 (.int .i64 (bs.length : Int)) (.int .i64 (m2 : Int)) = pure (.int .i64 (hi : Int)) := by
            rw [Go.Proofs.YtochnokfcfmgnaaW.PrintMore.min2_int]
            congr 2
            split <;> omega
          have hlh : lo ≤ hi := by omega
          have hhl : hi ≤ bs.length := by omega
          obtain ⟨Ab', cb', hvb, hcb, hCb, hAb⟩ := RBr.reads
          injection hvb with hA3 hl3 hc3'
          subst hA3
          subst hc3'
          (try clear hl3)
          have hq3 : (hi : Int) ≤ (cb : Int) := by omega
          have hq4 : (lo : Int) ≤ (hi : Int) := by omega
          have hq5 : max (hi : Int) 0 = (hi : Int) := by omega
          have hsl : (Ab = none ∧ cb = 0 ∧ lo = 0 ∧ hi = 0) ∨ (∃ b0 o0, Ab = some ⟨b0, o0, none⟩ ∧ ¬ cb = lo) ∨ (∃ b0 o0, Ab = some ⟨b0, o0, none⟩ ∧ cb = lo ∧ hi = lo) := by
            rcases hAb with ⟨h1, h2⟩ | ⟨b, o, h1⟩
            · exact .inl ⟨h1, h2, by omega, by omega⟩
            · by_cases h3 : cb = lo
              · exact .inr (.inr ⟨b, o, h1, h3, by omega⟩)
              · exact .inr (.inl ⟨b, o, h1, h3⟩)
          have hnext : (∃ nx : Nat, j + 1 < tabs.length ∧ wr.cell? ⟨atr.block, atr.off + (j + 1), none⟩ = some (.int .i64 (nx : Int)) ∧ PShadowCrashes.shadow_lay.f 20 [] (IntKind.u64.wrap (nx : Int)) 4 = some Lx) ∨ (¬ j + 1 < tabs.length ∧ PShadowCrashes.shadow_lay.f 20 [] (IntKind.u64.wrap 0) 4 = some Lx) := by
            by_cases hn1 : j + 1 < tabs.length
            · have hx1 := HT.out _ (List.getElem_mem hn1)
              obtain ⟨nx, hnx⟩ : ∃ nx : Nat, tabs[j + 1] = (nx : Int) := ⟨(tabs[j + 1]).toNat, by omega⟩
              refine .inl ⟨nx, hn1, by rw [← hnx]; exact RTr.cell_ (j + 1) hn1, ?_⟩
              rw [hLx, List.getD_eq_getElem?_getD, List.getElem?_eq_getElem hn1, Option.getD_some, hnx, wrap_id (by omega) (by omega)]
              exact lay_f 4 (by omega) [] (nx : Int) (by simp)
            · refine .inr ⟨hn1, ?_⟩
              rw [hLx, List.getD_eq_getElem?_getD, List.getElem?_eq_none (by omega), Option.getD_none, wrap_id (by omega) (by omega)]
              exact lay_f 4 (by omega) [] 0 (by simp)
          have HPT := Lib.hid hpt
          have HLX := Lib.hid hLx
          have HLL := Lib.hid hLl
          have HLH := Lib.hid hlh
          have HHL := Lib.hid hhl
          have RBH := Lib.hid RBr
          clear hLx hLl hlo hhi hpt hTP hm1 hm2 hlh hhl hcb hCb hAb RBr RTr
          have info5 : (Try.prog.info? 5).map (fun i => (i.zero, i.size, i.bytes)) = some (some (.int .u8 0), 1, 1) := by kernel_rfl
          obtain ⟨tp, htp⟩ : ∃ tp, tp = tabPart bs tabs j := ⟨_, rfl⟩
          have HTPE := Lib.hid htp
          rw [← htp] at HTP
          have htpk := tabPart_ok bs tabs HBB.out j
          rw [← htp] at htpk
          have HTPK := Lib.hid htpk
          have hfe : tw T bs tabs (j + 1) = { tw T bs tabs j with x := pgN (tw T bs tabs j).x t (Hand.packed 2 tp) 4 } := by
            have e4 : (tabs.getD j 0).toNat = t := by rw [List.getD_eq_getElem?_getD, List.getElem?_eq_getElem hj, hte]; rfl
            conv => lhs; unfold tw
            rw [e4, ← htp]
          have HFE := Lib.hid hfe
          have PW := Lib.hid (show ∀ W A c, Below wr.heap.size wr W → (Kd.int .u8).C W A tp.length tp → tp.length ≤ c → Calls Try.prog 60 #[.pointer (some ⟨g, 0, none⟩), .int .i64 (t : Int), .int .u32 2, .slice A tp.length c] W fun e w' => PwQ l wr base (fun b => own'' b = 1) g (tw T bs tabs j).x t (Hand.packed 2 tp) e w' from fun W A c hb hC hc => by
            have hdk := ST.out.disk.bound.keep (Only.of_below hb (fun _ => False)) (fun _ _ h => h)
            refine (pwrite_l (x := (tw T bs tabs j).x) (l := l2) (M := l) (Lib.hid hdk) LR2.out.1 LR2.out.2 hlm (Lib.hid CT.good) (Nat.le_trans ST.out.hb hb.size) (Lib.hid CT.life) (by rw [CT.pend]; omega) t htn 2 (by omega) A c tp (Lib.hid hC) hc (Lib.hid HTPK.out.2) HTPK.out.1).mono ?_
            rintro e w' ⟨r, i, l3, rfl, h1, h2, h3⟩
            exact ⟨r, i, l3, rfl, h1.mono (fun b hb' => by rcases hb' with h | h; exact .inl h.1; exact .inr (Nat.le_trans hb.size h)), (Only.of_below hb (fun b => own'' b = 1)).step h2 (fun b hb' h => h.1), h3⟩)
          have HSB := Lib.hid hs
          have LLH := Lib.hid (show (Lx.length + (hi - lo)) * 1 ≤ 140737488355328 by have := HLL.out; have := HHL.out; omega)
          have HYT := Lib.hid (show ∀ i, pgN (tw T bs tabs j).x t (Hand.packed 2 tp) i = pgN (tw (fw S data (freshN S.now).length) (tab S.now data).1 tabs j).x (tabs.getD j 0).toNat (Hand.packed 2 (tabPart (tab S.now data).1 tabs j)) i from fun i => by
            have e4 : (tabs.getD j 0).toNat = t := by rw [List.getD_eq_getElem?_getD, List.getElem?_eq_getElem hj, hte]; rfl
            rw [e4, ← HBS.out, ← HFR.out, ← HTE.out, ← htp])
          clear htp htpk hfe CT hte
          rcases hnext with ⟨nx, hnx, e3, LX⟩ | ⟨hnx, LX⟩
          · have hnxi : (j : Int) + 1 < (tabs.length : Int) := by omega
            have LXH := Lib.hid LX
            clear LX hnx
            rcases hsl with ⟨rfl, rfl, rfl, rfl⟩ | ⟨b0, o0, rfl, hq6⟩ | ⟨b0, o0, rfl, rfl, rfl⟩
            · have CP := Lib.hid (show ∀ W, Below wr.heap.size wr W → (Kd.int .u8).C W none 0 pt from fun W _ => by rw [HPT.out]; exact ⟨by simp, by simp, fun h => absurd h (by omega)⟩)
              go_wp2_with fail
              go_region_law (first
                | (go_simp; go_at_call 62; refine (lay_c (w0 := wr) _ 4 _ (((Only.refl wr (fun _ => False)).drew).below_all) (Kd.R_nil _ _ _ _ _) LXH.out).mono ?_; rintro e w2 ⟨A1, k1, rfl, r1, b1⟩; have R1 := Lib.hid r1; have B1 := Lib.hid b1; clear r1 b1)
                | (refine Kd.R_append_rows_step (Kd.int .u8) (w0 := wr) wr.heap.size rfl (.tmp 84) (.tmp 97) 23 5 (.int .u8 0) 1 rfl Try.underlying23 info5 rfl (by decide) (by decide) (.slice A1 Lx.length k1) Lx pt _ _ _ (fun _ => True) (fun _ => False) rfl rfl R1.out (CP.out _ B1.out) (fun _ _ h => h) (fun _ h => h.elim) (fun _ _ => trivial) B1.out B1.out.size LLH.out ?_; intro v3 w3 hR3 hb3 hg3 hat3; rw [HTP.out] at hR3; obtain ⟨A3, c3, ev3⟩ := Kd.R_slice hR3; subst ev3; have R3 := Lib.hid hR3; have B3 := Lib.hid hb3; clear hR3 hb3 hg3 hat3)
                | fail)
              all_goals
                have c0' := (HSB.out.below B3.out HSB.out.lt).cell_at 0 _ rfl
                have PWT := Lib.hid (PW.out w3 A3 c3 B3.out (Kd.R_reads' R3.out).2.2 (Kd.R_reads' R3.out).2.1)
                go_wp2_with fail
                refine PWT.out.mono ?_
                rintro e w4 ⟨r4, i4, l4, rfl, d4, o4, qa, qb, ⟨rfl, rfl⟩ | ⟨rfl, hi4⟩⟩
                · have D4 := Lib.hid d4
                  have O4 := Lib.hid o4
                  clear d4 o4
                  go_wp2_with fail
                  have SF := Lib.hid (show St w4 (upd own'' wr.heap.size 1) base g s (lv (tw T bs tabs (j + 1)) l4) by rw [HFE.out]; exact ST.out.disk_step D4.out O4.out)
                  go_roundg (gk - 1)
                  case measure => have := JM.out; omega
                  case rel =>
                    have hzz := ON2.out.size
                    exact ⟨j + 1, l4, (by simp), ⟨qa, qb⟩, ⟨by have := JM.out; omega⟩, ⟨_, fun b hb => (upd_lt (by omega)).trans (OW2.out b hb), SF.out⟩, ⟨ON2.out.step O4.out (fun b hb h => by rw [OW2.out b hb] at h; exact h)⟩⟩
                · have D4 := Lib.hid d4
                  have O4 := Lib.hid o4
                  clear d4 o4
                  go_wp2_with fail
                  go_ret
                  have q1 : ∀ b, b < w.heap.size → own1 b = own b := fun b hb => by rw [HOW.out, upd_lt hb]
                  have hzA := Nat.le_trans BW1.out.size ON.out.size
                  have hzr := Nat.le_trans hzA ON2.out.size
                  have hz1 := BW1.out.size
                  have q2 : ∀ b, b < w.heap.size → own' b = own b := fun b hb => (OW.out b (by omega)).trans (q1 b hb)
                  have q3 : ∀ b, b < w.heap.size → own'' b = own b := fun b hb => (OW2.out b (by omega)).trans (q2 b hb)
                  have X1 : Only w wA (fun b => own b = 1 ∨ own b = 3) := (Only.of_below BW1.out (fun b => own b = 1 ∨ own b = 3)).step ON.out (fun b hb h => by rw [q1 b hb] at h; exact h)
                  have X2 := X1.step ON2.out (fun b hb h => by rw [q2 b hb] at h; exact .inl h)
                  refine ⟨false, _, l4, rfl, D4.out.mono (fun b hb => ?_), X2.step O4.out (fun b hb h => by rw [q3 b hb] at h; exact .inl h), ST.out.sblk O4.out (fun b h h2 => by rw [h] at h2; cases h2), qa, qb, .inr ⟨rfl, .inr (.inl ⟨j, i4, hj, hi4, HYT.out i4⟩)⟩⟩
                  rcases hb with hb | hb
                  · by_cases hbw : b < w.heap.size
                    · exact .inl (by rw [← q3 b hbw]; exact hb)
                    · exact .inr (by omega)
                  · exact .inr (Nat.le_trans hzr hb)
            · have CP := Lib.hid (show ∀ W, Below wr.heap.size wr W → (Kd.int .u8).C W (some ⟨b0, o0 + lo, none⟩) (hi - lo) pt from fun W hb => by
                have h := RBH.out.part HLH.out HHL.out HPT.out
                have h2 := Kd.C_below h.2 hb
                rw [h.1] at h2
                exact h2)
              go_wp2_with fail
              go_region_law (first
                | (go_simp; go_at_call 62; refine (lay_c (w0 := wr) _ 4 _ (((Only.refl wr (fun _ => False)).drew).below_all) (Kd.R_nil _ _ _ _ _) LXH.out).mono ?_; rintro e w2 ⟨A1, k1, rfl, r1, b1⟩; have R1 := Lib.hid r1; have B1 := Lib.hid b1; clear r1 b1)
                | (refine Kd.R_append_rows_step (Kd.int .u8) (w0 := wr) wr.heap.size rfl (.tmp 84) (.tmp 97) 23 5 (.int .u8 0) 1 rfl Try.underlying23 info5 rfl (by decide) (by decide) (.slice A1 Lx.length k1) Lx pt _ _ _ (fun _ => True) (fun _ => False) rfl rfl R1.out (CP.out _ B1.out) (fun _ _ h => h) (fun _ h => h.elim) (fun _ _ => trivial) B1.out B1.out.size LLH.out ?_; intro v3 w3 hR3 hb3 hg3 hat3; rw [HTP.out] at hR3; obtain ⟨A3, c3, ev3⟩ := Kd.R_slice hR3; subst ev3; have R3 := Lib.hid hR3; have B3 := Lib.hid hb3; clear hR3 hb3 hg3 hat3)
                | fail)
              all_goals
                have c0' := (HSB.out.below B3.out HSB.out.lt).cell_at 0 _ rfl
                have PWT := Lib.hid (PW.out w3 A3 c3 B3.out (Kd.R_reads' R3.out).2.2 (Kd.R_reads' R3.out).2.1)
                go_wp2_with fail
                refine PWT.out.mono ?_
                rintro e w4 ⟨r4, i4, l4, rfl, d4, o4, qa, qb, ⟨rfl, rfl⟩ | ⟨rfl, hi4⟩⟩
                · have D4 := Lib.hid d4
                  have O4 := Lib.hid o4
                  clear d4 o4
                  go_wp2_with fail
                  have SF := Lib.hid (show St w4 (upd own'' wr.heap.size 1) base g s (lv (tw T bs tabs (j + 1)) l4) by rw [HFE.out]; exact ST.out.disk_step D4.out O4.out)
                  go_roundg (gk - 1)
                  case measure => have := JM.out; omega
                  case rel =>
                    have hzz := ON2.out.size
                    exact ⟨j + 1, l4, (by simp), ⟨qa, qb⟩, ⟨by have := JM.out; omega⟩, ⟨_, fun b hb => (upd_lt (by omega)).trans (OW2.out b hb), SF.out⟩, ⟨ON2.out.step O4.out (fun b hb h => by rw [OW2.out b hb] at h; exact h)⟩⟩
                · have D4 := Lib.hid d4
                  have O4 := Lib.hid o4
                  clear d4 o4
                  go_wp2_with fail
                  go_ret
                  have q1 : ∀ b, b < w.heap.size → own1 b = own b := fun b hb => by rw [HOW.out, upd_lt hb]
                  have hzA := Nat.le_trans BW1.out.size ON.out.size
                  have hzr := Nat.le_trans hzA ON2.out.size
                  have hz1 := BW1.out.size
                  have q2 : ∀ b, b < w.heap.size → own' b = own b := fun b hb => (OW.out b (by omega)).trans (q1 b hb)
                  have q3 : ∀ b, b < w.heap.size → own'' b = own b := fun b hb => (OW2.out b (by omega)).trans (q2 b hb)
                  have X1 : Only w wA (fun b => own b = 1 ∨ own b = 3) := (Only.of_below BW1.out (fun b => own b = 1 ∨ own b = 3)).step ON.out (fun b hb h => by rw [q1 b hb] at h; exact h)
                  have X2 := X1.step ON2.out (fun b hb h => by rw [q2 b hb] at h; exact .inl h)
                  refine ⟨false, _, l4, rfl, D4.out.mono (fun b hb => ?_), X2.step O4.out (fun b hb h => by rw [q3 b hb] at h; exact .inl h), ST.out.sblk O4.out (fun b h h2 => by rw [h] at h2; cases h2), qa, qb, .inr ⟨rfl, .inr (.inl ⟨j, i4, hj, hi4, HYT.out i4⟩)⟩⟩
                  rcases hb with hb | hb
                  · by_cases hbw : b < w.heap.size
                    · exact .inl (by rw [← q3 b hbw]; exact hb)
                    · exact .inr (by omega)
                  · exact .inr (Nat.le_trans hzr hb)
            · have CP := Lib.hid (show ∀ W, Below wr.heap.size wr W → (Kd.int .u8).C W (some ⟨b0, o0, none⟩) 0 pt from fun W hb => by
                have h := RBH.out.part HLH.out HHL.out HPT.out
                have h3 : pt = [] := List.length_eq_zero_iff.1 (by omega)
                rw [h3]
                exact ⟨rfl, by omega, fun h => absurd h (by omega)⟩)
              have LLH := Lib.hid (show (Lx.length + 0) * 1 ≤ 140737488355328 by have := HLL.out; omega)
              go_wp2_with fail
              go_region_law (first
                | (go_simp; go_at_call 62; refine (lay_c (w0 := wr) _ 4 _ (((Only.refl wr (fun _ => False)).drew).below_all) (Kd.R_nil _ _ _ _ _) LXH.out).mono ?_; rintro e w2 ⟨A1, k1, rfl, r1, b1⟩; have R1 := Lib.hid r1; have B1 := Lib.hid b1; clear r1 b1)
                | (refine Kd.R_append_rows_step (Kd.int .u8) (w0 := wr) wr.heap.size rfl (.tmp 84) (.tmp 97) 23 5 (.int .u8 0) 1 rfl Try.underlying23 info5 rfl (by decide) (by decide) (.slice A1 Lx.length k1) Lx pt _ _ _ (fun _ => True) (fun _ => False) rfl rfl R1.out (CP.out _ B1.out) (fun _ _ h => h) (fun _ h => h.elim) (fun _ _ => trivial) B1.out B1.out.size LLH.out ?_; intro v3 w3 hR3 hb3 hg3 hat3; rw [HTP.out] at hR3; obtain ⟨A3, c3, ev3⟩ := Kd.R_slice hR3; subst ev3; have R3 := Lib.hid hR3; have B3 := Lib.hid hb3; clear hR3 hb3 hg3 hat3)
                | fail)
              all_goals
                have c0' := (HSB.out.below B3.out HSB.out.lt).cell_at 0 _ rfl
                have PWT := Lib.hid (PW.out w3 A3 c3 B3.out (Kd.R_reads' R3.out).2.2 (Kd.R_reads' R3.out).2.1)
                go_wp2_with fail
                refine PWT.out.mono ?_
                rintro e w4 ⟨r4, i4, l4, rfl, d4, o4, qa, qb, ⟨rfl, rfl⟩ | ⟨rfl, hi4⟩⟩
                · have D4 := Lib.hid d4
                  have O4 := Lib.hid o4
                  clear d4 o4
                  go_wp2_with fail
                  have SF := Lib.hid (show St w4 (upd own'' wr.heap.size 1) base g s (lv (tw T bs tabs (j + 1)) l4) by rw [HFE.out]; exact ST.out.disk_step D4.out O4.out)
                  go_roundg (gk - 1)
                  case measure => have := JM.out; omega
                  case rel =>
                    have hzz := ON2.out.size
                    exact ⟨j + 1, l4, (by simp), ⟨qa, qb⟩, ⟨by have := JM.out; omega⟩, ⟨_, fun b hb => (upd_lt (by omega)).trans (OW2.out b hb), SF.out⟩, ⟨ON2.out.step O4.out (fun b hb h => by rw [OW2.out b hb] at h; exact h)⟩⟩
                · have D4 := Lib.hid d4
                  have O4 := Lib.hid o4
                  clear d4 o4
                  go_wp2_with fail
                  go_ret
                  have q1 : ∀ b, b < w.heap.size → own1 b = own b := fun b hb => by rw [HOW.out, upd_lt hb]
                  have hzA := Nat.le_trans BW1.out.size ON.out.size
                  have hzr := Nat.le_trans hzA ON2.out.size
                  have hz1 := BW1.out.size
                  have q2 : ∀ b, b < w.heap.size → own' b = own b := fun b hb => (OW.out b (by omega)).trans (q1 b hb)
                  have q3 : ∀ b, b < w.heap.size → own'' b = own b := fun b hb => (OW2.out b (by omega)).trans (q2 b hb)
                  have X1 : Only w wA (fun b => own b = 1 ∨ own b = 3) := (Only.of_below BW1.out (fun b => own b = 1 ∨ own b = 3)).step ON.out (fun b hb h => by rw [q1 b hb] at h; exact h)
                  have X2 := X1.step ON2.out (fun b hb h => by rw [q2 b hb] at h; exact .inl h)
                  refine ⟨false, _, l4, rfl, D4.out.mono (fun b hb => ?_), X2.step O4.out (fun b hb h => by rw [q3 b hb] at h; exact .inl h), ST.out.sblk O4.out (fun b h h2 => by rw [h] at h2; cases h2), qa, qb, .inr ⟨rfl, .inr (.inl ⟨j, i4, hj, hi4, HYT.out i4⟩)⟩⟩
                  rcases hb with hb | hb
                  · by_cases hbw : b < w.heap.size
                    · exact .inl (by rw [← q3 b hbw]; exact hb)
                    · exact .inr (by omega)
                  · exact .inr (Nat.le_trans hzr hb)
          · have hnxi : ¬ ((j : Int) + 1 < (tabs.length : Int)) := by omega
            have LXH := Lib.hid LX
            clear LX hnx
            rcases hsl with ⟨rfl, rfl, rfl, rfl⟩ | ⟨b0, o0, rfl, hq6⟩ | ⟨b0, o0, rfl, rfl, rfl⟩
            · have CP := Lib.hid (show ∀ W, Below wr.heap.size wr W → (Kd.int .u8).C W none 0 pt from fun W _ => by rw [HPT.out]; exact ⟨by simp, by simp, fun h => absurd h (by omega)⟩)
              go_wp2_with fail
              go_region_law (first
                | (go_simp; go_at_call 62; refine (lay_c (w0 := wr) _ 4 _ (((Only.refl wr (fun _ => False)).drew).below_all) (Kd.R_nil _ _ _ _ _) LXH.out).mono ?_; rintro e w2 ⟨A1, k1, rfl, r1, b1⟩; have R1 := Lib.hid r1; have B1 := Lib.hid b1; clear r1 b1)
                | (refine Kd.R_append_rows_step (Kd.int .u8) (w0 := wr) wr.heap.size rfl (.tmp 84) (.tmp 97) 23 5 (.int .u8 0) 1 rfl Try.underlying23 info5 rfl (by decide) (by decide) (.slice A1 Lx.length k1) Lx pt _ _ _ (fun _ => True) (fun _ => False) rfl rfl R1.out (CP.out _ B1.out) (fun _ _ h => h) (fun _ h => h.elim) (fun _ _ => trivial) B1.out B1.out.size LLH.out ?_; intro v3 w3 hR3 hb3 hg3 hat3; rw [HTP.out] at hR3; obtain ⟨A3, c3, ev3⟩ := Kd.R_slice hR3; subst ev3; have R3 := Lib.hid hR3; have B3 := Lib.hid hb3; clear hR3 hb3 hg3 hat3)
                | fail)
              all_goals
                have c0' := (HSB.out.below B3.out HSB.out.lt).cell_at 0 _ rfl
                have PWT := Lib.hid (PW.out w3 A3 c3 B3.out (Kd.R_reads' R3.out).2.2 (Kd.R_reads' R3.out).2.1)
                go_wp2_with fail
                refine PWT.out.mono ?_
                rintro e w4 ⟨r4, i4, l4, rfl, d4, o4, qa, qb, ⟨rfl, rfl⟩ | ⟨rfl, hi4⟩⟩
                · have D4 := Lib.hid d4
                  have O4 := Lib.hid o4
                  clear d4 o4
                  go_wp2_with fail
                  have SF := Lib.hid (show St w4 (upd own'' wr.heap.size 1) base g s (lv (tw T bs tabs (j + 1)) l4) by rw [HFE.out]; exact ST.out.disk_step D4.out O4.out)
                  go_roundg (gk - 1)
                  case measure => have := JM.out; omega
                  case rel =>
                    have hzz := ON2.out.size
                    exact ⟨j + 1, l4, (by simp), ⟨qa, qb⟩, ⟨by have := JM.out; omega⟩, ⟨_, fun b hb => (upd_lt (by omega)).trans (OW2.out b hb), SF.out⟩, ⟨ON2.out.step O4.out (fun b hb h => by rw [OW2.out b hb] at h; exact h)⟩⟩
                · have D4 := Lib.hid d4
                  have O4 := Lib.hid o4
                  clear d4 o4
                  go_wp2_with fail
                  go_ret
                  have q1 : ∀ b, b < w.heap.size → own1 b = own b := fun b hb => by rw [HOW.out, upd_lt hb]
                  have hzA := Nat.le_trans BW1.out.size ON.out.size
                  have hzr := Nat.le_trans hzA ON2.out.size
                  have hz1 := BW1.out.size
                  have q2 : ∀ b, b < w.heap.size → own' b = own b := fun b hb => (OW.out b (by omega)).trans (q1 b hb)
                  have q3 : ∀ b, b < w.heap.size → own'' b = own b := fun b hb => (OW2.out b (by omega)).trans (q2 b hb)
                  have X1 : Only w wA (fun b => own b = 1 ∨ own b = 3) := (Only.of_below BW1.out (fun b => own b = 1 ∨ own b = 3)).step ON.out (fun b hb h => by rw [q1 b hb] at h; exact h)
                  have X2 := X1.step ON2.out (fun b hb h => by rw [q2 b hb] at h; exact .inl h)
                  refine ⟨false, _, l4, rfl, D4.out.mono (fun b hb => ?_), X2.step O4.out (fun b hb h => by rw [q3 b hb] at h; exact .inl h), ST.out.sblk O4.out (fun b h h2 => by rw [h] at h2; cases h2), qa, qb, .inr ⟨rfl, .inr (.inl ⟨j, i4, hj, hi4, HYT.out i4⟩)⟩⟩
                  rcases hb with hb | hb
                  · by_cases hbw : b < w.heap.size
                    · exact .inl (by rw [← q3 b hbw]; exact hb)
                    · exact .inr (by omega)
                  · exact .inr (Nat.le_trans hzr hb)
            · have CP := Lib.hid (show ∀ W, Below wr.heap.size wr W → (Kd.int .u8).C W (some ⟨b0, o0 + lo, none⟩) (hi - lo) pt from fun W hb => by
                have h := RBH.out.part HLH.out HHL.out HPT.out
                have h2 := Kd.C_below h.2 hb
                rw [h.1] at h2
                exact h2)
              go_wp2_with fail
              go_region_law (first
                | (go_simp; go_at_call 62; refine (lay_c (w0 := wr) _ 4 _ (((Only.refl wr (fun _ => False)).drew).below_all) (Kd.R_nil _ _ _ _ _) LXH.out).mono ?_; rintro e w2 ⟨A1, k1, rfl, r1, b1⟩; have R1 := Lib.hid r1; have B1 := Lib.hid b1; clear r1 b1)
                | (refine Kd.R_append_rows_step (Kd.int .u8) (w0 := wr) wr.heap.size rfl (.tmp 84) (.tmp 97) 23 5 (.int .u8 0) 1 rfl Try.underlying23 info5 rfl (by decide) (by decide) (.slice A1 Lx.length k1) Lx pt _ _ _ (fun _ => True) (fun _ => False) rfl rfl R1.out (CP.out _ B1.out) (fun _ _ h => h) (fun _ h => h.elim) (fun _ _ => trivial) B1.out B1.out.size LLH.out ?_; intro v3 w3 hR3 hb3 hg3 hat3; rw [HTP.out] at hR3; obtain ⟨A3, c3, ev3⟩ := Kd.R_slice hR3; subst ev3; have R3 := Lib.hid hR3; have B3 := Lib.hid hb3; clear hR3 hb3 hg3 hat3)
                | fail)
              all_goals
                have c0' := (HSB.out.below B3.out HSB.out.lt).cell_at 0 _ rfl
                have PWT := Lib.hid (PW.out w3 A3 c3 B3.out (Kd.R_reads' R3.out).2.2 (Kd.R_reads' R3.out).2.1)
                go_wp2_with fail
                refine PWT.out.mono ?_
                rintro e w4 ⟨r4, i4, l4, rfl, d4, o4, qa, qb, ⟨rfl, rfl⟩ | ⟨rfl, hi4⟩⟩
                · have D4 := Lib.hid d4
                  have O4 := Lib.hid o4
                  clear d4 o4
                  go_wp2_with fail
                  have SF := Lib.hid (show St w4 (upd own'' wr.heap.size 1) base g s (lv (tw T bs tabs (j + 1)) l4) by rw [HFE.out]; exact ST.out.disk_step D4.out O4.out)
                  go_roundg (gk - 1)
                  case measure => have := JM.out; omega
                  case rel =>
                    have hzz := ON2.out.size
                    exact ⟨j + 1, l4, (by simp), ⟨qa, qb⟩, ⟨by have := JM.out; omega⟩, ⟨_, fun b hb => (upd_lt (by omega)).trans (OW2.out b hb), SF.out⟩, ⟨ON2.out.step O4.out (fun b hb h => by rw [OW2.out b hb] at h; exact h)⟩⟩
                · have D4 := Lib.hid d4
                  have O4 := Lib.hid o4
                  clear d4 o4
                  go_wp2_with fail
                  go_ret
                  have q1 : ∀ b, b < w.heap.size → own1 b = own b := fun b hb => by rw [HOW.out, upd_lt hb]
                  have hzA := Nat.le_trans BW1.out.size ON.out.size
                  have hzr := Nat.le_trans hzA ON2.out.size
                  have hz1 := BW1.out.size
                  have q2 : ∀ b, b < w.heap.size → own' b = own b := fun b hb => (OW.out b (by omega)).trans (q1 b hb)
                  have q3 : ∀ b, b < w.heap.size → own'' b = own b := fun b hb => (OW2.out b (by omega)).trans (q2 b hb)
                  have X1 : Only w wA (fun b => own b = 1 ∨ own b = 3) := (Only.of_below BW1.out (fun b => own b = 1 ∨ own b = 3)).step ON.out (fun b hb h => by rw [q1 b hb] at h; exact h)
                  have X2 := X1.step ON2.out (fun b hb h => by rw [q2 b hb] at h; exact .inl h)
                  refine ⟨false, _, l4, rfl, D4.out.mono (fun b hb => ?_), X2.step O4.out (fun b hb h => by rw [q3 b hb] at h; exact .inl h), ST.out.sblk O4.out (fun b h h2 => by rw [h] at h2; cases h2), qa, qb, .inr ⟨rfl, .inr (.inl ⟨j, i4, hj, hi4, HYT.out i4⟩)⟩⟩
                  rcases hb with hb | hb
                  · by_cases hbw : b < w.heap.size
                    · exact .inl (by rw [← q3 b hbw]; exact hb)
                    · exact .inr (by omega)
                  · exact .inr (Nat.le_trans hzr hb)
            · have CP := Lib.hid (show ∀ W, Below wr.heap.size wr W → (Kd.int .u8).C W (some ⟨b0, o0, none⟩) 0 pt from fun W hb => by
                have h := RBH.out.part HLH.out HHL.out HPT.out
                have h3 : pt = [] := List.length_eq_zero_iff.1 (by omega)
                rw [h3]
                exact ⟨rfl, by omega, fun h => absurd h (by omega)⟩)
              have LLH := Lib.hid (show (Lx.length + 0) * 1 ≤ 140737488355328 by have := HLL.out; omega)
              go_wp2_with fail
              go_region_law (first
                | (go_simp; go_at_call 62; refine (lay_c (w0 := wr) _ 4 _ (((Only.refl wr (fun _ => False)).drew).below_all) (Kd.R_nil _ _ _ _ _) LXH.out).mono ?_; rintro e w2 ⟨A1, k1, rfl, r1, b1⟩; have R1 := Lib.hid r1; have B1 := Lib.hid b1; clear r1 b1)
                | (refine Kd.R_append_rows_step (Kd.int .u8) (w0 := wr) wr.heap.size rfl (.tmp 84) (.tmp 97) 23 5 (.int .u8 0) 1 rfl Try.underlying23 info5 rfl (by decide) (by decide) (.slice A1 Lx.length k1) Lx pt _ _ _ (fun _ => True) (fun _ => False) rfl rfl R1.out (CP.out _ B1.out) (fun _ _ h => h) (fun _ h => h.elim) (fun _ _ => trivial) B1.out B1.out.size LLH.out ?_; intro v3 w3 hR3 hb3 hg3 hat3; rw [HTP.out] at hR3; obtain ⟨A3, c3, ev3⟩ := Kd.R_slice hR3; subst ev3; have R3 := Lib.hid hR3; have B3 := Lib.hid hb3; clear hR3 hb3 hg3 hat3)
                | fail)
              all_goals
                have c0' := (HSB.out.below B3.out HSB.out.lt).cell_at 0 _ rfl
                have PWT := Lib.hid (PW.out w3 A3 c3 B3.out (Kd.R_reads' R3.out).2.2 (Kd.R_reads' R3.out).2.1)
                go_wp2_with fail
                refine PWT.out.mono ?_
                rintro e w4 ⟨r4, i4, l4, rfl, d4, o4, qa, qb, ⟨rfl, rfl⟩ | ⟨rfl, hi4⟩⟩
                · have D4 := Lib.hid d4
                  have O4 := Lib.hid o4
                  clear d4 o4
                  go_wp2_with fail
                  have SF := Lib.hid (show St w4 (upd own'' wr.heap.size 1) base g s (lv (tw T bs tabs (j + 1)) l4) by rw [HFE.out]; exact ST.out.disk_step D4.out O4.out)
                  go_roundg (gk - 1)
                  case measure => have := JM.out; omega
                  case rel =>
                    have hzz := ON2.out.size
                    exact ⟨j + 1, l4, (by simp), ⟨qa, qb⟩, ⟨by have := JM.out; omega⟩, ⟨_, fun b hb => (upd_lt (by omega)).trans (OW2.out b hb), SF.out⟩, ⟨ON2.out.step O4.out (fun b hb h => by rw [OW2.out b hb] at h; exact h)⟩⟩
                · have D4 := Lib.hid d4
                  have O4 := Lib.hid o4
                  clear d4 o4
                  go_wp2_with fail
                  go_ret
                  have q1 : ∀ b, b < w.heap.size → own1 b = own b := fun b hb => by rw [HOW.out, upd_lt hb]
                  have hzA := Nat.le_trans BW1.out.size ON.out.size
                  have hzr := Nat.le_trans hzA ON2.out.size
                  have hz1 := BW1.out.size
                  have q2 : ∀ b, b < w.heap.size → own' b = own b := fun b hb => (OW.out b (by omega)).trans (q1 b hb)
                  have q3 : ∀ b, b < w.heap.size → own'' b = own b := fun b hb => (OW2.out b (by omega)).trans (q2 b hb)
                  have X1 : Only w wA (fun b => own b = 1 ∨ own b = 3) := (Only.of_below BW1.out (fun b => own b = 1 ∨ own b = 3)).step ON.out (fun b hb h => by rw [q1 b hb] at h; exact h)
                  have X2 := X1.step ON2.out (fun b hb h => by rw [q2 b hb] at h; exact .inl h)
                  refine ⟨false, _, l4, rfl, D4.out.mono (fun b hb => ?_), X2.step O4.out (fun b hb h => by rw [q3 b hb] at h; exact .inl h), ST.out.sblk O4.out (fun b h h2 => by rw [h] at h2; cases h2), qa, qb, .inr ⟨rfl, .inr (.inl ⟨j, i4, hj, hi4, HYT.out i4⟩)⟩⟩
                  rcases hb with hb | hb
                  · by_cases hbw : b < w.heap.size
                    · exact .inl (by rw [← q3 b hbw]; exact hb)
                    · exact .inr (by omega)
                  · exact .inr (Nat.le_trans hzr hb)
        · have hji : ¬ ((j : Int) < (tabs.length : Int)) := by omega
          obtain rfl : j = tabs.length := by omega
          obtain ⟨U0, hU0⟩ : ∃ U0, U0 = tw T bs tabs tabs.length := ⟨_, rfl⟩
          rw [← hU0] at ST CT hs
          obtain ⟨ep, hep⟩ : ∃ ep : Int, ep = U0.epoch + 1 := ⟨_, rfl⟩
          have hee : U0.epoch = S.epoch := CT.ep
          have hwe : IntKind.u64.wrap (U0.epoch + 1) = ep := by rw [hep]; exact wrap_id (by have := HO.out.ep; omega) (by rw [hee]; exact HEP.out)
          obtain ⟨rt, p, hrt, hrp, hp1⟩ : ∃ rt p : Nat, U0.root = (rt : Int) ∧ p = 1 - rt ∧ rt ≤ 1 := by
            rcases HO.out.root with h | h
            · exact ⟨0, 1, by rw [CT.root, h]; rfl, rfl, by omega⟩
            · exact ⟨1, 0, by rw [CT.root, h]; rfl, rfl, by omega⟩
          have hwr : IntKind.i64.wrap (1 - (rt : Int)) = (p : Int) := by rw [wrap64_id (by omega) (by omega)]; omega
          have HEE := Lib.hid hee
          have HRT := Lib.hid hrt
          have HRP := Lib.hid hrp
          have HEPE := Lib.hid hep
          rw [hrt] at hs
          clear hee hrt hrp hep
          have HU0 := Lib.hid hU0
          have CTH := Lib.hid CT
          have RTH := Lib.hid (show Row wr (fun b => own'' b = 2) .i64 (.slice At tabs.length ct) tabs from (RTA2.out.mono (ok' := fun b => own' b = 2 ∧ b < wA.heap.size) (fun b hb h => ⟨h, hb⟩)).keep ON2.out (fun b hb => n21 b hb.1) |>.mono (fun b _ hb => (OW2.out b hb.2).trans hb.1))
          have HPV := Lib.hid (show U0 = preV S data tabs by unfold preV; rw [← HFR.out, ← HTE.out, ← HBS.out, ← hU0])
          by_cases hz : l2 = 0
          · have BD := Lib.hid (barrier_dead ST.out.disk (CTH.out.good.live LR2.out.1 (Int.le_trans LR2.out.2 hlm)) hz)
            clear hU0 CT RBr RTr hs o1 n21
            go_wp2_with fail
            refine BD.out.mono ?_
            rintro e w2 ⟨rfl, hw2⟩
            rw [← hw2]
            clear hw2
            go_wp2_with fail
            go_ret
            have q1 : ∀ b, b < w.heap.size → own1 b = own b := fun b hb => by rw [HOW.out, upd_lt hb]
            have hzA := Nat.le_trans BW1.out.size ON.out.size
            have hzr := Nat.le_trans hzA ON2.out.size
            have hz1 := BW1.out.size
            have q2 : ∀ b, b < w.heap.size → own' b = own b := fun b hb => (OW.out b (by omega)).trans (q1 b hb)
            have q3 : ∀ b, b < w.heap.size → own'' b = own b := fun b hb => (OW2.out b (by omega)).trans (q2 b hb)
            have X1 : Only w wA (fun b => own b = 1 ∨ own b = 3) := (Only.of_below BW1.out (fun b => own b = 1 ∨ own b = 3)).step ON.out (fun b hb h => by rw [q1 b hb] at h; exact h)
            have X2 := X1.step ON2.out (fun b hb h => by rw [q2 b hb] at h; exact .inl h)
            have DOK : ∀ b, own'' b = 1 → own b = 1 ∨ w.heap.size ≤ b := fun b hb => by
              by_cases hbw : b < w.heap.size
              · exact .inl (by rw [← q3 b hbw]; exact hb)
              · exact .inr (by omega)
            exact ⟨false, U0.x, l2, rfl, ST.out.disk.mono DOK, X2, ST.out.sblk (Only.refl _ (fun _ => False)) (fun _ _ h => h), LR2.out.1, LR2.out.2, .inr ⟨rfl, .inr (.inr (.inl (by rw [HPV.out])))⟩⟩
          have HZ := Lib.hid hz
          have DB := Lib.hid (dk_barrier ST.out.disk (CTH.out.good.live LR2.out.1 (Int.le_trans LR2.out.2 hlm)) (by have := HO.out.n2; omega) hz)
          obtain ⟨l3, hl3⟩ : ∃ l3, l3 = spent l2 := ⟨_, rfl⟩
          have LR3 := Lib.hid (show 0 ≤ l3 ∧ l3 ≤ l by rw [hl3]; have := LR2.out; unfold spent; split <;> omega)
          have HL3 := Lib.hid hl3
          clear hl3 hz
          have HSB := Lib.hid hs
          have O1 := Lib.hid o1
          clear hU0 CT RBr RTr hs o1 n21
          go_wp2_with (first
            | (go_at_call 49; refine DB.out.mono ?_; rintro e w2 ⟨rfl, d2, o2⟩; have D2 := Lib.hid d2; have O2 := Lib.hid o2; have c3 := (HSB.out.keep o2 (by rw [O1.out]; decide)).cell_at 3 _ rfl; have f3 := (HSB.out.keep o2 (by rw [O1.out]; decide)).frozen 3; have f2 := (HSB.out.keep o2 (by rw [O1.out]; decide)).frozen 2;  have c2 := (HSB.out.keep o2 (by rw [O1.out]; decide)).cell_at 2 _ rfl; have c1 := (HSB.out.keep o2 (by rw [O1.out]; decide)).cell_at 1 _ rfl; clear d2 o2)
            | fail)
          have S2 := ST.out.disk_step (x := U0.x.barrier.live l3) (by rw [HL3.out]; exact D2.out.mono (fun _ h => .inl h)) O2.out
          obtain ⟨bk2, bn2, tv2, hs2, k1, k2, k3, k4, k5, k6, k7⟩ := S2.blk
          have RT2 : Row w2 (fun b => upd own'' wr.heap.size 1 b = 2) .i64 (.slice At tabs.length ct) tabs := (RTH.out.mono (ok' := fun b => own'' b = 2 ∧ b < wr.heap.size) (fun b hb h => ⟨h, hb⟩)).keep O2.out (fun b hb h => by rw [hb.1] at h; cases h) |>.mono (fun b _ hb => by rw [upd_lt hb.2]; exact hb.1)
          have S3 := S2.turn_s hs2 k1 k2 k3 k4 k6 k7 (((Only.refl w2 (fun k => k = s)).setCell (p := ⟨s, 3, none⟩) (fun _ => rfl) (.slice At tabs.length ct)).setCell (p := ⟨s, 2, none⟩) (fun _ => rfl) (.int .u64 ep)) ((hs2.set_ 3 (.slice At tabs.length ct)).set_ 2 (.int .u64 ep)) RT2
          have hb0 : Dk.Good U0.x.barrier n := CTH.out.good.barrier
          have hb0l := hb0.live LR3.out.1 (Int.le_trans LR3.out.2 hlm)
          have hlf : U0.x.barrier.life = -1 := by show spent U0.x.life = -1; rw [CTH.out.life]; rfl
          have WNZ := Lib.hid (fun HLIFE => write_nz S3 hb0l HLIFE (by show ([] : List (Int × List Int)).length ≤ 1000000; simp) (by have := HO.out.n1; omega) (show 0 ≤ ep ∧ ep < 18446744073709551616 from by rw [HEPE.out, HEE.out]; exact ⟨by have := HO.out.ep; omega, HEP.out⟩) (fun t ht => by have h := HT.out t ht; have h2 := HO.out.n2; omega) p (by have := HRP.out; omega))
          have WZZ := Lib.hid (fun HLIFE => write_z S3 hb0l HLIFE (by show ([] : List (Int × List Int)).length ≤ 1000000; simp) (by have := HO.out.n1; omega) (show 0 ≤ ep ∧ ep < 18446744073709551616 from by rw [HEPE.out, HEE.out]; exact ⟨by have := HO.out.ep; omega, HEP.out⟩) (fun t ht => by have h := HT.out t ht; have h2 := HO.out.n2; omega) p (by have := HRP.out; omega))
          have S3H := Lib.hid S3
          have hz2 := O2.out.size
          have HW := Lib.hid (show ∀ k, k < wr.heap.size → upd (upd own'' wr.heap.size 1) w2.heap.size 2 k = own'' k from fun k hk => by rw [upd_lt (by omega), upd_lt hk])
          have HG0 := Lib.hid hb0
          have HLF := Lib.hid hlf
          clear S2 S3 RT2 hs2 k1 k2 k3 k4 k5 k6 k7 hb0 hlf
          obtain ⟨w3, hw3⟩ : ∃ w3, w3 = ((w2.setCell { block := s, off := 3 } (Value.slice At tabs.length ct)).setCell { block := s, off := 2 } (Value.int IntKind.u64 ep)) := ⟨_, rfl⟩
          have O23 := Lib.hid (show Only w2 w3 (fun k => k = s) by rw [hw3]; exact (((Only.refl w2 (fun k => k = s)).setCell (p := ⟨s, 3, none⟩) (fun _ => rfl) (.slice At tabs.length ct)).setCell (p := ⟨s, 2, none⟩) (fun _ => rfl) (.int .u64 ep)))
          rw [← hw3] at WNZ WZZ S3H ⊢
          have HW3 := Lib.hid hw3
          clear hw3 c1 c2 c3 f2 f3
          obtain ⟨own3, hown3⟩ : ∃ own3, own3 = upd (upd own'' wr.heap.size 1) w2.heap.size 2 := ⟨_, rfl⟩
          rw [← hown3] at WNZ S3H HW
          obtain ⟨U1, hU1⟩ : ∃ U1 : SV, U1 = { U0 with x := U0.x.barrier, tabs := tabs, epoch := ep } := ⟨_, rfl⟩
          have hro : U1.root = (rt : Int) := by rw [hU1]; exact HRT.out
          obtain ⟨U2, hU2⟩ : ∃ U2 : SV, U2 = { U1 with x := U1.x.write (4 * p) (rootB U1) } := ⟨_, rfl⟩
          have hro2 : U2.root = (rt : Int) := by rw [hU2]; exact hro
          have hg2 : Dk.Good U2.x n := by rw [hU2, hU1]; exact HG0.out.write (by have := HRP.out; have := HO.out.n1; omega) (rootB_len _) (rootB_byte _)
          have hl2 : U2.x.life = -1 := by rw [hU2, hU1]; show spent (U0.x.barrier).life = -1; rw [HLF.out]; rfl
          have HX := Lib.hid (show ({ { U2 with x := U2.x.barrier } with root := (p : Int), kept := U2.now } : SV) = cmV S data tabs by
            have ep2 : 1 - U0.root = (p : Int) := by have h1 := HRT.out; have h2 := HRP.out; omega
            unfold cmV
            rw [← HFR.out, ← HTE.out, ← HBS.out, ← HU0.out, hU2, hU1, HEPE.out]
            dsimp only
            rw [ep2]
            rfl)
          by_cases hz3 : l3 = 0
          · have WZ := Lib.hid (WZZ.out hz3)
            have S3D := Lib.hid (S3H.out)
            clear WNZ WZZ
            go_wp2_with fail
            refine WZ.out.mono ?_
            rintro e w4 ⟨rfl, b4⟩
            have B4 := Lib.hid b4
            clear b4
            go_wp2_with fail
            go_ret
            have q1 : ∀ b, b < w.heap.size → own1 b = own b := fun b hb => by rw [HOW.out, upd_lt hb]
            have hzA := Nat.le_trans BW1.out.size ON.out.size
            have hzr := Nat.le_trans hzA ON2.out.size
            have hz1 := BW1.out.size
            have q2 : ∀ b, b < w.heap.size → own' b = own b := fun b hb => (OW.out b (by omega)).trans (q1 b hb)
            have q3 : ∀ b, b < w.heap.size → own'' b = own b := fun b hb => (OW2.out b (by omega)).trans (q2 b hb)
            have X1 : Only w wA (fun b => own b = 1 ∨ own b = 3) := (Only.of_below BW1.out (fun b => own b = 1 ∨ own b = 3)).step ON.out (fun b hb h => by rw [q1 b hb] at h; exact h)
            have X2 := X1.step ON2.out (fun b hb h => by rw [q2 b hb] at h; exact .inl h)
            obtain ⟨_, _, _, hs0, os0, _⟩ := H0.out.blk
            have hz2 := O2.out.size
            have q4 : ∀ b, b < w.heap.size → own3 b = own b := fun b hb => (HW.out b (by omega)).trans (q3 b hb)
            have X3 := X2.step O2.out (fun b hb h => by rw [q3 b hb] at h; exact .inl h)
            have X4 := X3.step O23.out (fun b hb h => .inr (by rw [h]; exact os0))
            have X5 := X4.step (Only.of_below B4.out (fun _ => False)) (fun b hb h => h.elim)
            have hz4 := O23.out.size
            refine ⟨false, U0.x.barrier, l3, rfl, ((S3D.out.below B4.out 0).disk).mono (fun b hb => ?_), X5, S3D.out.sblk (Only.of_below B4.out (fun _ => False)) (fun _ _ h => h), LR3.out.1, LR3.out.2, .inr ⟨rfl, .inr (.inr (.inr (.inl (by rw [HPV.out]))))⟩⟩
            by_cases hbw : b < w.heap.size
            · refine .inl ?_
              have hb : upd own3 w3.heap.size 0 b = 1 := hb
              rw [upd_lt (by omega), q4 b hbw] at hb
              exact hb
            · exact .inr (by omega)
          obtain ⟨l4, hl4⟩ : ∃ l4, l4 = spent l3 := ⟨_, rfl⟩
          have LR4 := Lib.hid (show 0 ≤ l4 ∧ l4 ≤ l by rw [hl4]; have := LR3.out; unfold spent; split <;> omega)
          have WC2 : Hid (Calls Try.prog 50 #[.pointer (some ⟨s, 0, none⟩), .int .i64 (p : Int)] w3 fun e w' => e = .returned (.int .i64 0) ∧ (∃ own', (∀ k, k < w3.heap.size → own' k = own3 k) ∧ St w' own' base g s (lv U2 l4)) ∧ Only w3 w' (fun k => own3 k = 1)) := Lib.hid (by rw [hU2, hU1, hl4]; exact WNZ.out hz3)
          have HU1 := Lib.hid hU1
          have HU2 := Lib.hid hU2
          have HRO := Lib.hid hro2
          have HG2 := Lib.hid hg2
          have HL2 := Lib.hid hl2
          have HOWN3 := Lib.hid hown3
          clear WNZ WZZ S3H hU1 hU2 hro hg2 hl2 hro2 hown3 hl4 hz3
          go_wp2_with (first
            | (go_at_call 50; refine WC2.out.mono ?_; rintro e w4 ⟨rfl, ⟨own4, h4, s4⟩, o4⟩; have S4 := Lib.hid s4; have H4 := Lib.hid h4; have O4 := Lib.hid o4; obtain ⟨bk4, bn4, tv4, hf4⟩ := s4.blk; have HF4 : Hid (BlkF w4 own4 g s bk4 bn4 tv4 U2) := Lib.hid hf4; obtain ⟨hs4, k1, _⟩ := hf4; simp only [show (lv U2 l4).root = U2.root from rfl, show (lv U2 l4).epoch = U2.epoch from rfl] at hs4; rw [HRO.out] at hs4; have HS4 := Lib.hid hs4; have K1 := Lib.hid k1; have c0' := hs4.cell_at 0 _ rfl; clear h4 o4 hs4 k1)
            | fail)
          by_cases hz4 : l4 = 0
          · have BD4 := Lib.hid (barrier_dead S4.out.disk (HG2.out.live LR4.out.1 (Int.le_trans LR4.out.2 hlm)) hz4)
            go_wp2_with fail
            refine BD4.out.mono ?_
            rintro e w5 ⟨rfl, hw5⟩
            rw [← hw5]
            clear hw5
            go_wp2_with fail
            go_ret
            have q1 : ∀ b, b < w.heap.size → own1 b = own b := fun b hb => by rw [HOW.out, upd_lt hb]
            have hzA := Nat.le_trans BW1.out.size ON.out.size
            have hzr := Nat.le_trans hzA ON2.out.size
            have hz1 := BW1.out.size
            have q2 : ∀ b, b < w.heap.size → own' b = own b := fun b hb => (OW.out b (by omega)).trans (q1 b hb)
            have q3 : ∀ b, b < w.heap.size → own'' b = own b := fun b hb => (OW2.out b (by omega)).trans (q2 b hb)
            have X1 : Only w wA (fun b => own b = 1 ∨ own b = 3) := (Only.of_below BW1.out (fun b => own b = 1 ∨ own b = 3)).step ON.out (fun b hb h => by rw [q1 b hb] at h; exact h)
            have X2 := X1.step ON2.out (fun b hb h => by rw [q2 b hb] at h; exact .inl h)
            obtain ⟨_, _, _, hs0, os0, _⟩ := H0.out.blk
            have hz2 := O2.out.size
            have hz3 := O23.out.size
            have hz4' := O4.out.size
            have q4 : ∀ b, b < w.heap.size → own3 b = own b := fun b hb => (HW.out b (by omega)).trans (q3 b hb)
            have q5 : ∀ b, b < w.heap.size → own4 b = own b := fun b hb => (H4.out b (by omega)).trans (q4 b hb)
            have X3 := X2.step O2.out (fun b hb h => by rw [q3 b hb] at h; exact .inl h)
            have X4 := X3.step O23.out (fun b hb h => .inr (by rw [h]; exact os0))
            have X5 := X4.step O4.out (fun b hb h => by rw [q4 b hb] at h; exact .inl h)
            refine ⟨false, U2.x, l4, rfl, S4.out.disk.mono (fun b hb => ?_), X5, S4.out.sblk (Only.refl _ (fun _ => False)) (fun _ _ h => h), LR4.out.1, LR4.out.2, .inr ⟨rfl, .inr (.inr (.inr (.inr ?_)))⟩⟩
            · by_cases hbw : b < w.heap.size
              · exact .inl (by rw [← q5 b hbw]; exact hb)
              · exact .inr (by omega)
            · have hcr : rootB (cmV S data tabs) = rootB U1 := by rw [← HX.out, HU2.out]; rfl
              have hp4 : (1 - S.root).toNat = p := by
                have h1 := HRT.out
                rw [CTH.out.root] at h1
                have h2 := HRP.out
                omega
              rw [hcr, hp4, HU2.out, HU1.out, ← HPV.out]
          go_wp2_with (first
            | (go_at_call 49; refine (dk_barrier S4.out.disk (HG2.out.live LR4.out.1 (Int.le_trans LR4.out.2 hlm)) (by have := HO.out.n2; omega) hz4).mono ?_; rintro e w5 ⟨rfl, d5, o5⟩; have D5 := Lib.hid d5; have O5 := Lib.hid o5; have HS5 := Lib.hid (HS4.out.keep o5 (by rw [K1.out]; decide)); have f1 := HS5.out.frozen 1; have f4 := HS5.out.frozen 4; have c1 := HS5.out.cell_at 1 _ rfl; have c4 := HS5.out.cell_at 4 _ rfl; have c5 := HS5.out.cell_at 5 _ rfl; clear d5 o5)
            | fail)
          have F5 := HF4.out.keep O5.out (fun b hb h => by rw [h] at hb; rcases hb with hb | hb <;> cases hb) 1
          have S5 := S4.out.disk_step (x := U2.x.barrier.live (spent l4)) (D5.out.mono (fun _ h => .inl h)) O5.out
          have hz5 := O5.out.size
          obtain ⟨own5, hown5⟩ : ∃ own5, own5 = upd own4 w4.heap.size 1 := ⟨_, rfl⟩
          rw [← hown5] at F5 S5
          obtain ⟨g1, g2, g3, g4, g5, g6, g7, g8⟩ := F5
          have O56 : Only w5 (w5.setCell ⟨s, 1, none⟩ (.int .i64 (p : Int))) (fun k => k = s) := (Only.refl w5 (fun k => k = s)).setCell (p := ⟨s, 1, none⟩) (fun _ => rfl) (.int .i64 (p : Int))
          have S6 := S5.turn_s g1 g2 g3 g4 g5 g7 g8 O56 (g1.set_ 1 (.int .i64 (p : Int))) g6
          obtain ⟨w6, hw6⟩ : ∃ w6, w6 = w5.setCell ⟨s, 1, none⟩ (.int .i64 (p : Int)) := ⟨_, rfl⟩
          rw [← hw6] at S6 O56 ⊢
          have hs6 : Blk w6 s 76 [.pointer (some ⟨g, 0, none⟩), .int .i64 (p : Int), .int .u64 U2.epoch, tv4, .map (some bk4), .map (some bn4), .bool false] := by rw [hw6]; exact g1.set_ 1 _
          have f4' := hs6.frozen 4
          have nn : bn4 ≠ s := by obtain ⟨m, hm, _⟩ := g8; exact fun e => hm.ne g1 e.symm
          have nk : bk4 ≠ s := by obtain ⟨m, hm, _⟩ := g7; exact fun e => hm.ne g1 e.symm
          have l8 := g8.lt
          have l7 := g7.lt
          have h86 : MapAt w6 (fun k => upd own5 w5.heap.size 2 k = 2) bn4 U2.now := (g8.mono (ok' := fun k => own5 k = 2 ∧ k < w5.heap.size) (fun b hb h => ⟨h, hb⟩)).keep O56 (fun b hb e => by rw [e, g2] at hb; exact absurd hb.1 (by decide)) nn |>.mono (fun b _ hb => by rw [upd_lt hb.2]; exact hb.1)
          have h66 : Row w6 (fun k => upd own5 w5.heap.size 2 k = 2) .i64 tv4 U2.tabs := (g6.mono (ok' := fun k => own5 k = 2 ∧ k < w5.heap.size) (fun b hb h => ⟨h, hb⟩)).keep O56 (fun b hb e => by rw [e, g2] at hb; exact absurd hb.1 (by decide)) |>.mono (fun b _ hb => by rw [upd_lt hb.2]; exact hb.1)
          obtain ⟨m, hm, hdom, hat⟩ := h86
          have z1 : upd own5 w5.heap.size 2 s = 3 := by rw [upd_lt g1.lt]; exact g2
          have z2 : upd own5 w5.heap.size 2 bk4 = 3 := by rw [upd_lt l7]; exact g3
          have z3 : upd own5 w5.heap.size 2 bn4 = 3 := by rw [upd_lt l8]; exact g4
          have CL := Lib.hid (clone_map bn4 m w6 hm)
          have TK := Lib.hid (fun w7 M7 B7 => S6.turn_kept hs6 z1 z2 z3 g5 h66 hm hdom hat (w2 := w7) M7 B7)
          have O45 := Lib.hid (O4.out.step (O5.out) (fun b hb h => by rw [H4.out b hb] at h; exact h))
          have HO56 := Lib.hid O56
          have HOW5 := Lib.hid hown5
          have HS6 := Lib.hid hs6
          clear S5 S6 g1 g2 g3 g4 g5 g6 g7 g8 O56 hw6 hs6 h66 hm hdom hat nn nk l8 l7 z1 z2 z3 hown5 c0' c1 c4 c5 f1 f4 f4'
          go_wp2_with (first
            | (go_at_call 47; refine CL.out.mono ?_; rintro e w7 ⟨rfl, m7, b7⟩; have f4 := (HS6.out.below b7 HS6.out.lt).frozen 4; have c4 := (HS6.out.below b7 HS6.out.lt).cell_at 4 _ rfl; have M7 := Lib.hid m7; have B7 := Lib.hid b7; clear m7 b7)
            | fail)
          go_ret
          have FIN := TK.out w7 M7.out B7.out
          have hzA := ON.out.size
          have hzr := ON2.out.size
          have hz1 := BW1.out.size
          have hz2 := O2.out.size
          have hz3 := O23.out.size
          have hz4 := O4.out.size
          have hz5 := O5.out.size
          have hz6 := HO56.out.size
          have hz7 := B7.out.size
          have q1 : ∀ b, b < w.heap.size → own1 b = own b := fun b hb => by rw [HOW.out, upd_lt hb]
          have q2 : ∀ b, b < w.heap.size → own' b = own b := fun b hb => (OW.out b (by omega)).trans (q1 b hb)
          have q3 : ∀ b, b < w.heap.size → own'' b = own b := fun b hb => (OW2.out b (by omega)).trans (q2 b hb)
          have q4 : ∀ b, b < w.heap.size → own3 b = own b := fun b hb => (HW.out b (by omega)).trans (q3 b hb)
          have q5 : ∀ b, b < w.heap.size → own4 b = own b := fun b hb => (H4.out b (by omega)).trans (q4 b hb)
          have q6 : ∀ b, b < w.heap.size → own5 b = own b := fun b hb => by rw [HOW5.out, upd_lt (by omega)]; exact q5 b hb
          obtain ⟨_, _, _, hs0, os0, _⟩ := H0.out.blk
          have hxx : (cmV S data tabs).x = U2.x.barrier := by rw [← HX.out]
          refine ⟨true, (cmV S data tabs).x, spent l4, rfl, ?_, ?_, FIN.sblk (Only.refl _ (fun _ => False)) (fun _ _ h => h), by have := LR4.out; unfold spent; split <;> omega, by have := LR4.out; unfold spent; split <;> omega, .inl ⟨rfl, by have := LR2.out; have h3 := HZ.out; omega, rfl⟩⟩
          · rw [hxx]
            refine FIN.disk.mono (fun b hb => ?_)
            by_cases hbw : b < w.heap.size
            · refine .inl ?_
              have hb : upd (upd own5 w5.heap.size 2) w6.heap.size 3 b = 1 := hb
              rw [upd_lt (by omega), upd_lt (by omega), q6 b hbw] at hb
              exact hb
            · exact .inr (by omega)
          · skip
            have X1 : Only w wA (fun b => own b = 1 ∨ own b = 3) := (Only.of_below BW1.out (fun b => own b = 1 ∨ own b = 3)).step ON.out (fun b hb h => by rw [q1 b hb] at h; exact h)
            have X2 := X1.step ON2.out (fun b hb h => by rw [q2 b hb] at h; exact .inl h)
            have X3 := X2.step O2.out (fun b hb h => by rw [q3 b hb] at h; exact .inl h)
            have X4 := X3.step O23.out (fun b hb h => .inr (by rw [h]; exact os0))
            have X5 := X4.step O45.out (fun b hb h => by rw [q4 b hb] at h; exact .inl h)
            have X6 := X5.step HO56.out (fun b hb h => .inr (by rw [h]; exact os0))
            have X7 := X6.step (Only.of_below B7.out (fun _ => False)) (fun b hb h => h.elim)
            exact X7.step (((Only.refl w7 (fun k => k = s)).setCell (p := ⟨s, 4, none⟩) (fun _ => rfl) _)) (fun b hb h => .inr (by rw [h]; exact os0))
end Go.Proofs.Ytochnokfcfmgnaa.St
end

section
/- Seat F: what a commit plans, over a store whose disk may be dying. -/
namespace Go.Proofs.Ytochnokfcfmgnaa.St
open Go Go.RowKit Go.Proofs.Ytochnokfcfmgnaa.Mem Go.Proofs.YtochnokfcfmgnaaW.PrintWords Go.Proofs.Ytochnokfcfmgnaa.Dk Go.Maps Go.ChangeMaps Go.Proofs.Ytochnokfcfmgnaa.Sh Go.Proofs.Ytochnokfcfmgnaa.Sp
set_option linter.unusedVariables false
set_option linter.unusedSimpArgs false
set_option maxRecDepth 100000
set_option maxHeartbeats 4000000
/-- What every store keeps, whatever the disk's life. -/
structure OkW (n : Nat) (S : SV) : Prop where
  good : Dk.Good S.x n
  n1 : 12 ≤ n
  n2 : n ≤ 400
  root : S.root = 0 ∨ S.root = 1
  ep : 1 ≤ S.epoch
  tabs : ∀ t ∈ S.tabs, 2 ≤ t ∧ t < ((n / 4 : Nat) : Int)
  kept : ∀ i p, S.kept i = some p → i < 728 ∧ 2 ≤ p.1 ∧ p.1 < n / 4 ∧ p.2.length ≤ 116 ∧ ∀ y ∈ p.2, 0 ≤ y ∧ y < 256
  now : ∀ i p, S.now i = some p → i < 728 ∧ (p.1 = 0 ∨ S.kept i = some p) ∧ p.2.length ≤ 116 ∧ ∀ y ∈ p.2, 0 ≤ y ∧ y < 256
theorem Ok.weak {n : Nat} {S : SV} (h : Ok n S) {x : DV} (hg : Dk.Good x n) : OkW n { S with x := x } := ⟨hg, h.n1, h.n2, h.root, h.ep, h.tabs, h.kept, h.now⟩
theorem used_w {w : World} {own : Nat → Nat} {base g s n : Nat} {S : SV} (h : St w own base g s S) (hO : OkW n S) :
    Calls Try.prog 41 #[.pointer (some ⟨s, 0, none⟩)] w fun e w' => ∃ B, e = .returned (.slice (some ⟨B, 0, none⟩) (n / 4) (n / 4)) ∧ w.heap.size ≤ B ∧ Blk w' B 4 ((uL (usedP S) (n / 4)).map Value.bool) ∧ Below w.heap.size w w' := by
  obtain ⟨bk, bn, tv, hs, _, _, _, _, hrow, ⟨m, ⟨D, hown, hD⟩, hdom, hat⟩, _⟩ := h.blk
  obtain ⟨c, hc⟩ : ∃ c, c = n / 4 := ⟨_, rfl⟩
  have hc3 : 3 ≤ c := by have := hO.n1; omega
  have hc1 : c ≤ 100 := by have := hO.n2; omega
  have hci : (c : Int) ≤ 100 := by omega
  have hci3 : (3 : Int) ≤ (c : Int) := by omega
  have CO := Lib.hid (Pg.count_any h.disk hO.good)
  rw [← hc] at CO ⊢
  have hmk := make_bools c (by omega)
  have c0 := hs.cell_at 0 _ rfl
  have c3 := hs.cell_at 3 _ rfl
  have c4 := hs.cell_at 4 _ rfl
  obtain ⟨At, ct, rfl, htl, hCt, _⟩ := hrow.reads
  have HS := Lib.hid hs
  have HT := Lib.hid hCt
  have HTR := Lib.hid hO.tabs
  rw [← hc] at HTR
  have HOWN := Lib.hid hown
  have htl2 := hrow.len
  have HKEY := Lib.hid (show ∀ i v, Maps.has D (key i) = true → (∀ zd, D.atKey (key i) zd = .held v) → ∃ (q a : Nat) (A : Option Addr) (l cc : Nat), i = (q : Int) ∧ v = .agg #[.int .i64 (a : Int), .slice A l cc] ∧ (∃ p, S.kept q = some p ∧ p.1 = a) ∧ a < c from fun i v h1 h2 => by
    have h3 := (hD i).1
    rw [h1] at h3
    obtain ⟨h4, h5⟩ := hdom i h3.symm
    obtain ⟨q, rfl⟩ : ∃ q : Nat, i = (q : Int) := ⟨i.toNat, by omega⟩
    have h6 := hat q
    cases hf : S.kept q with
    | none => rw [hf] at h6; have h6 : m (q : Int) = none := h6; rw [h6] at h3; cases h3
    | some p =>
      rw [hf] at h6
      obtain ⟨v', h7, h8⟩ := h6
      obtain ⟨A, cc, rfl, _⟩ := h8.reads
      have h9 := (hD q).2 .nilFunc
      rw [h2, h7] at h9
      injection h9 with h9
      exact ⟨q, p.1, A, _, cc, rfl, h9, ⟨p, hf, rfl⟩, by have := (hO.kept q p hf).2.2.1; omega⟩)
  have HALL := Lib.hid (show ∀ (i : Nat) p, S.kept i = some p → Maps.has D (key i) = true from fun i p hf => by
    have h6 := hat i
    rw [hf] at h6
    obtain ⟨v', h7, _⟩ := h6
    rw [(hD i).1, h7]
    rfl)
  obtain ⟨wU, hwU⟩ : ∃ wU, wU = w.alloc (.cells (((Array.replicate c (Value.bool false)).setIfInBounds 0 (.bool true)).setIfInBounds 1 (.bool true)) 4) := ⟨_, rfl⟩
  have hbU : Below w.heap.size w wU := by rw [hwU]; exact (Below.refl _ w).alloc (Nat.le_refl _) _
  have BU := Lib.hid hbU
  have XU : Hid (Blk wU w.heap.size 4 ((uL (fun k => k = 0 ∨ k = 1) c).map Value.bool)) := Lib.hid (by rw [hwU, start_row c hc3]; exact Blk.new _ _ _)
  have c3u := (hs.below hbU hs.lt).cell_at 3 _ rfl
  rw [hwU] at c3u
  have HWU := Lib.hid hwU
  have hsne : ¬ s = w.heap.size := by have := hs.lt; omega
  have hz0 : (Array.replicate c (Value.bool false))[0]? = some (.bool false) := by rw [Array.getElem?_replicate, if_pos (by omega)]
  have hz1 : (Array.replicate c (Value.bool false))[1]? = some (.bool false) := by rw [Array.getElem?_replicate, if_pos (by omega)]
  have HCE := Lib.hid hc
  clear hs hown hD hdom hat h hCt hrow hO hc hwU hbU
  go_enter Try.func41, Try.ntmps41
  go_wp2_with (first
    | (go_at_call 45; refine CO.out.mono ?_; rintro e wz ⟨rfl, hwz⟩; rw [← hwz]; clear hwz)
    | fail)
  rw [← HWU.out]
  clear c0 c3 c3u hmk hz0 hz1
  have htli : (S.tabs.length : Int) ≤ 100000 := by omega
  go_loopg [23] S.tabs.length (fun mm iv wr => ∃ k : Nat, iv = .int .i64 k ∧ Aside1 (k + mm = S.tabs.length) ∧ Aside1 (Below w.heap.size w wr) ∧ Aside1 (Blk wr w.heap.size 4 ((uL (fun q => q = 0 ∨ q = 1 ∨ (q : Int) ∈ S.tabs.take k) c).map Value.bool)))
  case atStart => exact ⟨0, rfl, ⟨by omega⟩, ⟨BU.out⟩, ⟨by have h := XU.out; rw [uL_congr (Q := fun q => q = 0 ∨ q = 1 ∨ (q : Int) ∈ S.tabs.take 0) (fun q => by simp)] at h; exact h⟩⟩
  case round =>
    obtain ⟨k, rfl, ⟨hkm⟩, ⟨hB⟩, ⟨hX⟩⟩ := hrel
    have KM := Lib.hid hkm
    have B := Lib.hid hB
    have X := Lib.hid hX
    have hk0 : (k : Int) ≤ 100000 := by omega
    clear hkm hB hX
    by_cases hk : k < S.tabs.length
    · have hki : (k : Int) < (S.tabs.length : Int) := by omega
      obtain ⟨ad, rfl, e1⟩ := int_at (Kd.C_below HT.out B.out) k hk
      obtain ⟨t, ht⟩ : ∃ t : Nat, S.tabs[k] = (t : Int) := ⟨(S.tabs[k]).toNat, by have := (HTR.out _ (List.getElem_mem hk)).1; omega⟩
      have htc := (HTR.out _ (List.getElem_mem hk)).2
      rw [ht] at htc e1
      have htn : t < c := by omega
      have HTE := Lib.hid ht
      have XS := Lib.hid (X.out.set_ t (.bool true))
      have q1 := X.out.cell t
      have q2 := X.out.frozen t
      rw [show ((uL (fun q => q = 0 ∨ q = 1 ∨ (q : Int) ∈ S.tabs.take k) c).map Value.bool)[t]? = some (.bool ((uL (fun q => q = 0 ∨ q = 1 ∨ (q : Int) ∈ S.tabs.take k) c)[t]'(by rw [uL_len]; exact htn))) from by rw [List.getElem?_map, List.getElem?_eq_getElem (by rw [uL_len]; exact htn)]; rfl] at q1
      clear ht
      go_wp2_with fail
      go_roundg (gk - 1)
      case measure => have := KM.out; omega
      case rel => exact ⟨k + 1, (by simp), ⟨by have := KM.out; omega⟩, ⟨B.out.setCell (p := ⟨w.heap.size, t, none⟩) (Nat.le_refl _) _⟩, ⟨by
        have h := XS.out
        rw [set_bool, uL_set _ _ _ htn, uL_congr (Q := fun q => q = 0 ∨ q = 1 ∨ (q : Int) ∈ S.tabs.take (k + 1)) (fun q => by
          rw [List.take_succ_eq_append_getElem hk, HTE.out, List.mem_append, List.mem_singleton]
          constructor
          · rintro ((h | h | h) | h)
            · exact .inl h
            · exact .inr (.inl h)
            · exact .inr (.inr (.inl h))
            · exact .inr (.inr (.inr (by rw [h])))
          · rintro (h | h | h | h)
            · exact .inl (.inl h)
            · exact .inl (.inr (.inl h))
            · exact .inl (.inr (.inr h))
            · exact .inr (by omega))] at h
        exact h⟩⟩
    · have hki : ¬ (k : Int) < (S.tabs.length : Int) := by omega
      have c4r := (HS.out.below B.out HS.out.lt).cell_at 4 _ rfl
      have OWr := Lib.hid (own_map_below HOWN.out B.out HOWN.out.lt)
      have X0 : Hid (Blk wr w.heap.size 4 ((uL (fun q => q = 0 ∨ q = 1 ∨ (q : Int) ∈ S.tabs) c).map Value.bool)) := Lib.hid (by have h := X.out; rw [List.take_of_length_le (by omega)] at h; exact h)
      obtain ⟨wq, hwq⟩ : ∃ wq, wq = wr := ⟨_, rfl⟩
      subst hwq
      go_wp2_with (first
        | (at_range; refine wpList_range_own _ rfl _ 74 rfl 3 72 law3 u74 vR bk _ D rfl OWr.out ?_; intro w0 hrg0 hg0 hs0; have RG0 := Lib.hid hrg0; have G0 := Lib.hid hg0; clear hrg0 hg0 hs0)
        | fail)
      have XW := Lib.hid (show Blk w0 w.heap.size 4 ((uL (fun q => q = 0 ∨ q = 1 ∨ (q : Int) ∈ S.tabs) c).map Value.bool) from (G0.out.block w.heap.size X0.out.lt (by simp)).trans X0.out)
      have BW := Lib.hid (show Below w.heap.size w w0 from B.out.trans ⟨G0.out.os, G0.out.tape, G0.out.output, G0.out.size, fun q hq => G0.out.block q (by have := B.out.size; omega) (by simp)⟩)
      have hwl : w.heap.size < wq.heap.size := X0.out.lt
      clear X X0 B OWr c4r KM
      obtain ⟨r, hr⟩ : ∃ r, r = wq.heap.size := ⟨_, rfl⟩
      rw [← hr] at RG0 hwl ⊢
      clear hr
      go_loopw [37] (fun _ wr => ∃ (left : Lit → Bool) (cnt : Nat), wr.ranges Try.prog 3 vR bk r (Maps.size D) D left cnt ∧ Aside1 (Below w.heap.size w wr) ∧ Aside1 (Blk wr w.heap.size 4 ((uL (fun q => (q = 0 ∨ q = 1 ∨ (q : Int) ∈ S.tabs) ∨ ∃ i p, S.kept i = some p ∧ p.1 = q ∧ left (key i) = false) c).map Value.bool))) (fun _ wr => wr.rangeLeft bk r)
      case atStart =>
        refine ⟨Maps.has D, Maps.size D, RG0.out, ⟨BW.out⟩, ⟨?_⟩⟩
        have h := XW.out
        rw [uL_congr (Q := fun q => (q = 0 ∨ q = 1 ∨ (q : Int) ∈ S.tabs) ∨ ∃ i p, S.kept i = some p ∧ p.1 = q ∧ Maps.has D (key i) = false) (fun q => ⟨.inl, fun h => h.elim id (fun ⟨i, p, h1, _, h2⟩ => by rw [HALL.out i p h1] at h2; cases h2)⟩)] at h
        exact h
      case round =>
        obtain ⟨left, cnt, hrg, ⟨hB⟩, ⟨hX⟩⟩ := hrel
        have RG := Lib.hid hrg
        have B := Lib.hid hB
        have X := Lib.hid hX
        clear hrg hB hX RG0 XW BW G0
        go_wp2_with (first
          | (at_next; refine wpList_next_ranges _ rfl _ rfl 3 law3 vR (fun x : Int => .int .i64 x) (fun v : Value => v) (fun key kl h => by obtain ⟨x, h1, _⟩ := Maps.keyOf_int_inv u3 h; exact ⟨x, h1⟩) (fun v y _ => ⟨v, rfl⟩) bk r _ D left cnt rfl RG.out ?_ ?_)
          | fail)
        · intro _ hl0
          have HL0 := Lib.hid hl0
          clear hl0
          go_wp2_with fail
          go_ret
          refine ⟨_, rfl, Nat.le_refl _, ?_, B.out⟩
          have h := X.out
          rw [uL_congr (Q := usedP S) (fun q => by
            unfold usedP
            constructor
            · rintro ((h | h | h) | ⟨i, p, h1, h2, _⟩)
              · exact .inl h
              · exact .inr (.inl h)
              · exact .inr (.inr (.inl h))
              · exact .inr (.inr (.inr ⟨i, p, h1, h2⟩))
            · rintro (h | h | h | ⟨i, p, h1, h2⟩)
              · exact .inl (.inl h)
              · exact .inl (.inr (.inl h))
              · exact .inl (.inr (.inr h))
              · exact .inr ⟨i, p, h1, h2, HL0.out _⟩)] at h
          exact h
        · intro x v kl yd yp w1 cnt1 hkey hlk hv hat hrg1 hlt hg1 hs1 hen
          obtain ⟨x', hx', rfl, _⟩ := Maps.keyOf_int_inv u3 hkey
          obtain rfl : x = x' := by injection hx'
          obtain rfl := vR_inv hv
          have hhas : Maps.has D (key x) = true := has_true_of_atKey hat
          obtain ⟨q, a, A, ll, cc, rfl, rfl, hkp, hac⟩ := HKEY.out x v hhas hat
          have HKP := Lib.hid hkp
          have hur : w.heap.size ≠ r := by omega
          have X1 := (show Blk w1 w.heap.size 4 _ from (hg1.block w.heap.size X.out.lt (by intro e; injection e with e; omega)).trans X.out)
          have XA := Lib.hid (X1.alloc (.cells #[.int .i64 (a : Int), .slice A ll cc] 72))
          have q1 := XA.out.cell a
          have q2 := XA.out.frozen a
          have hul : a < (uL (fun q => (q = 0 ∨ q = 1 ∨ (q : Int) ∈ S.tabs) ∨ ∃ i p, S.kept i = some p ∧ p.1 = q ∧ left (key i) = false) c).length := by rw [uL_len]; exact hac
          obtain ⟨ub, hub⟩ : ∃ ub, (uL (fun q => (q = 0 ∨ q = 1 ∨ (q : Int) ∈ S.tabs) ∨ ∃ i p, S.kept i = some p ∧ p.1 = q ∧ left (key i) = false) c)[a]'hul = ub := ⟨_, rfl⟩
          rw [List.getElem?_map, List.getElem?_eq_getElem hul, hub, Option.map_some] at q1
          have haci : (a : Int) < (c : Int) := by omega
          have B1 := Lib.hid (show Below w.heap.size w w1 from B.out.trans ⟨hg1.os, hg1.tape, hg1.output, hg1.size, fun k hk => hg1.block k (by have := B.out.size; omega) (fun e => by injection e with e; omega)⟩)
          have RG1 := Lib.hid hrg1
          have HLT := Lib.hid hlt
          clear hub hkp X1 hul hkey hlk hv hat hhas hrg1 hlt hg1 hs1
          go_wp2_with fail
          have XS := XA.out.set_ a (.bool true)
          have hgS : (w1.alloc (.cells #[.int .i64 (a : Int), .slice A ll cc] 72)).grownBy ((w1.alloc (.cells #[.int .i64 (a : Int), .slice A ll cc] 72)).setCell ⟨w.heap.size, a, none⟩ (.bool true)) (some w.heap.size) := by
            have o := (Only.refl (w1.alloc (.cells #[.int .i64 (a : Int), .slice A ll cc] 72)) (fun k => k = w.heap.size)).setCell (p := ⟨w.heap.size, a, none⟩) (fun _ => rfl) (.bool true)
            exact ⟨o.os, o.tape, o.output, o.size, fun k hk hn => o.block k hk (fun e => hn (by rw [e]))⟩
          have RG2 := Lib.hid ((RG1.out.alloc (.cells #[.int .i64 (a : Int), .slice A ll cc] 72)).kept hgS (by intro e; injection e with e; have := HOWN.out.lt; omega) (by intro e; injection e with e; omega))
          have B2 := Lib.hid ((B1.out.alloc (by have := B1.out.size; omega) (.cells #[.int .i64 (a : Int), .slice A ll cc] 72)).setCell (p := ⟨w.heap.size, a, none⟩) (Nat.le_refl _) (.bool true))
          have XS2 := Lib.hid XS
          clear XS hgS
          go_roundw
          case measure => rw [RG2.out.left_eq, RG.out.left_eq]; exact HLT.out
          case rel =>
            refine ⟨_, _, RG2.out, ⟨B2.out⟩, ⟨?_⟩⟩
            have h := XS2.out
            rw [set_bool, uL_set _ _ _ hac, uL_congr (Q := fun z => (z = 0 ∨ z = 1 ∨ (z : Int) ∈ S.tabs) ∨ ∃ i p, S.kept i = some p ∧ p.1 = z ∧ (left (key i) && !(key i).sameKey (key (q : Int))) = false) (fun z => by
              constructor
              · rintro ((h | ⟨i, p, h1, h2, h3⟩) | h)
                · exact .inl h
                · exact .inr ⟨i, p, h1, h2, by rw [h3]; rfl⟩
                · obtain ⟨p, h4, h5⟩ := HKP.out
                  exact .inr ⟨q, p, h4, by omega, by rw [WideAt.sameKey_self (key_lit _)]; simp⟩
              · rintro (h | ⟨i, p, h1, h2, h3⟩)
                · exact .inl (.inl h)
                · by_cases hl : left (key i) = false
                  · exact .inl (.inr ⟨i, p, h1, h2, hl⟩)
                  · have hl2 : left (key i) = true := by simpa using hl
                    rw [hl2] at h3
                    have h4 : (key (i : Int)).sameKey (key (q : Int)) = true := by simpa using h3
                    have h5 := key_inj (WideAt.sameKey_eq h4)
                    obtain rfl : i = q := by omega
                    obtain ⟨p', h6, h7⟩ := HKP.out
                    rw [h1] at h6
                    injection h6 with h6
                    subst h6
                    exact .inr (by omega))] at h
            exact h
theorem OkW.small {n : Nat} {S : SV} (h : OkW n S) {pl : List Int} (hp : ∀ y ∈ pl, 0 ≤ y ∧ y < 34359738368) : Small S.now pl :=
  ⟨hp, fun q p hq => ⟨(h.now q p hq).1, by
    rcases (h.now q p hq).2.1 with h1 | h1
    · omega
    · have := (h.kept q p h1).2.2.1
      have := h.n2
      omega⟩⟩
theorem most_w {w : World} {own : Nat → Nat} {base g s n : Nat} {S : SV} (h : St w own base g s S) (hO : OkW n S) (fr : Nat) (hfr : fr ≤ 728) :
    Calls Try.prog 59 #[.pointer (some ⟨s, 0, none⟩), .int .i64 (fr : Int)] w fun e w' => e = .returned (.int .i64 (mostV S (n / 4) fr)) ∧ Below w.heap.size w w' := by
  have H0 := Lib.hid h
  obtain ⟨c, hc⟩ : ∃ c, c = n / 4 := ⟨_, rfl⟩
  have hc3 : 3 ≤ c := by have := hO.n1; omega
  have hc1 : c ≤ 100 := by have := hO.n2; omega
  have hci : (c : Int) ≤ 100 := by omega
  have hci3 : (3 : Int) ≤ (c : Int) := by omega
  have hfi : (fr : Int) ≤ 728 := by omega
  have CO : Hid (∀ W, Below w.heap.size w W → Calls Try.prog 45 #[.pointer (some ⟨g, 0, none⟩)] W fun e w' => e = .returned (.int .i64 (c : Int)) ∧ W = w') := Lib.hid (fun W hb => by rw [hc]; exact Pg.count_any (h.below hb 0).disk hO.good)
  have HSM := Lib.hid (hO.small (pl := List.replicate fr ((c : Int) - 1)) (fun y hy => by rw [(List.mem_replicate.1 hy).2]; omega))
  obtain ⟨bk, bn, tv, hs, _⟩ := h.blk
  have HS := Lib.hid hs
  have hmk := fun u => make_ints fr (by omega) u
  rw [← hc]
  clear hs h hO hc
  go_enter Try.func59, Try.ntmps59
  go_wp2_with fail
  have BU := Lib.hid ((Below.refl w.heap.size w).alloc (Nat.le_refl _) (.cells (icells .i64 (List.replicate fr 0)).toArray 3))
  have XU := Lib.hid (Blk.new w 3 (icells .i64 (List.replicate fr 0)))
  generalize w.alloc (.cells (icells .i64 (List.replicate fr 0)).toArray 3) = wU at *
  go_loopg [13] fr (fun mm iv wr => ∃ k : Nat, iv = .int .i64 k ∧ Aside1 (k + mm = fr) ∧ Aside1 (Below w.heap.size w wr) ∧ Aside1 (Blk wr w.heap.size 3 (icells .i64 (List.replicate k ((c : Int) - 1) ++ List.replicate (fr - k) 0))))
  case atStart => exact ⟨0, rfl, ⟨by omega⟩, ⟨BU.out⟩, ⟨XU.out⟩⟩
  case round =>
    obtain ⟨k, rfl, ⟨hkm⟩, ⟨hB⟩, ⟨hX⟩⟩ := hrel
    have KM := Lib.hid hkm
    have B := Lib.hid hB
    have X := Lib.hid hX
    have hk0 : (k : Int) ≤ 728 := by omega
    clear hkm hB hX BU XU
    have c0 := (HS.out.below B.out HS.out.lt).cell_at 0 _ rfl
    by_cases hk : k < fr
    · have hki : (k : Int) < (fr : Int) := by omega
      have q1 := X.out.cell k
      have hl : k < (List.replicate k ((c : Int) - 1) ++ List.replicate (fr - k) 0).length := by simp; omega
      rw [icells_get _ _ _ hl] at q1
      have q2 := X.out.frozen k
      obtain ⟨uo, huo⟩ : ∃ uo, (List.replicate k ((c : Int) - 1) ++ List.replicate (fr - k) 0)[k]'hl = uo := ⟨_, rfl⟩
      rw [huo] at q1
      have XS := Lib.hid (X.out.set_ k (.int .i64 ((c : Int) - 1)))
      clear huo
      go_wp2_with (first
        | (go_at_call 45; refine (CO.out _ B.out).mono ?_; rintro e wz ⟨rfl, hwz⟩; rw [← hwz]; clear hwz)
        | fail)
      go_roundg (gk - 1)
      case measure => have := KM.out; omega
      case rel => exact ⟨k + 1, (by simp), ⟨by have := KM.out; omega⟩, ⟨B.out.setCell (p := ⟨w.heap.size, k, none⟩) (Nat.le_refl _) _⟩, ⟨by have h := XS.out; rw [icells_set, fill_step _ _ _ hk] at h; exact h⟩⟩
    · have hki : ¬ (k : Int) < (fr : Int) := by omega
      obtain rfl : k = fr := by have := KM.out; omega
      have hX2 := X.out
      rw [Nat.sub_self, List.replicate_zero, List.append_nil] at hX2
      have hC := C_of_blk (o := 0) (n := k) (k := .i64) (by exact hX2) (by simp) (by simp; omega)
      rw [List.drop_zero, List.take_of_length_le (by simp)] at hC
      have hT := table_c (H0.out.below B.out 0) (some ⟨w.heap.size, 0, none⟩) k (List.replicate k ((c : Int) - 1)) (by rw [List.length_replicate]; exact hC) (by simp) HSM.out
      rw [List.length_replicate] at hT
      have TB := Lib.hid hT
      have htl := tab_len HSM.out
      have HMV := Lib.hid (show mostV S c k = ((k + pagesN (tab S.now (List.replicate k ((c : Int) - 1))).1.length : Nat) : Int) from rfl)
      obtain ⟨tl, htle⟩ : ∃ tl, tl = (tab S.now (List.replicate k ((c : Int) - 1))).1 := ⟨_, rfl⟩
      rw [← htle] at TB htl HMV
      have htli : (tl.length : Int) ≤ 7280 := by omega
      clear hX2 hC hT htle
      go_wp2_with (first
        | (go_at_call 57; refine TB.out.mono ?_; rintro e w2 ⟨bv, fv, rfl, r1, r2, b2⟩; obtain ⟨Ab, cb, rfl⟩ := Kd.R_slice r1; have B2 := Lib.hid (B.out.trans (b2.mono B.out.size)); clear r1 r2 b2)
        | fail)
      go_ret
      refine ⟨?_, B2.out⟩
      rw [HMV.out]
      unfold pagesN
      show Ending.returned (.int .i64 ((k : Int) + ((tl.length : Int) + 112 - 1) / 112)) = _
      rw [show ((k : Int) + ((tl.length : Int) + 112 - 1) / 112) = ((k + (tl.length + 111) / 112 : Nat) : Int) by omega]
theorem plan_w {w : World} {own : Nat → Nat} {base g s n : Nat} {S : SV} (h : St w own base g s S) (hO : OkW n S) :
    Calls Try.prog 42 #[.pointer (some ⟨s, 0, none⟩)] w fun e w' => ∃ dv tv, e = .returned (.tuple #[dv, tv, .int .i64 (planV S (n / 4)).2.2.1, .int .i64 (planV S (n / 4)).2.2.2]) ∧ Row w' (fun k => w.heap.size ≤ k) .i64 dv (planV S (n / 4)).1 ∧ Row w' (fun k => w.heap.size ≤ k) .i64 tv (planV S (n / 4)).2.1 ∧ Below w.heap.size w w' := by
  have H0 := Lib.hid h
  have HO := Lib.hid hO
  obtain ⟨c, hc⟩ : ∃ c, c = n / 4 := ⟨_, rfl⟩
  have hc3 : 3 ≤ c := by have := hO.n1; omega
  have hc1 : c ≤ 100 := by have := hO.n2; omega
  have US := Lib.hid (used_w h hO)
  have HCE := Lib.hid hc
  rw [← hc] at US ⊢
  have hfl := freeS_len S c
  obtain ⟨fr, hfr⟩ : ∃ fr, fr = (freshN S.now).length := ⟨_, rfl⟩
  have hfr2 : fr ≤ 728 := by rw [hfr]; exact freshN_len _
  have hfri : (fr : Int) ≤ 728 := by omega
  have T0 : Hid (∀ W, Below w.heap.size w W → Calls Try.prog 57 #[.pointer (some ⟨s, 0, none⟩), .slice none 0 0] W fun e w' => ∃ bv fv, e = .returned (.tuple #[bv, fv]) ∧ (Kd.int .u8).R 5 w' W.heap.size (fun _ => True) bv (tab S.now []).1 ∧ (Kd.int .i64).R 3 w' W.heap.size (fun _ => True) fv ((freshN S.now).map Int.ofNat) ∧ Below W.heap.size W w') := Lib.hid (fun W hb => table_c (h.below hb 0) none 0 [] (Kd.C_nil (Kd.int .i64) W) (Nat.le_refl _) (hO.small (fun y hy => absurd hy List.not_mem_nil)))
  have HPV := Lib.hid (show planV S c = planN S c fr (c + 2) 0 by unfold planV; rw [hfr])
  have HFR := Lib.hid hfr
  clear h hO hc hfr
  go_enter Try.func42, Try.ntmps42
  go_wp2_with (first
    | (go_at_call 41; refine US.out.mono ?_; rintro e w1 ⟨B, rfl, hBw, hX, b1⟩; have XU := Lib.hid hX; have B1 := Lib.hid b1; clear hX b1)
    | (go_at_call 57; refine (T0.out _ B1.out).mono ?_; rintro e w2 ⟨bv, fv, rfl, r1, r2, b2⟩
       obtain ⟨fl, hfl2⟩ : ∃ fl, fl = (freshN S.now).map Int.ofNat := ⟨_, rfl⟩
       have hfll : fl.length = fr := by rw [hfl2, List.length_map, HFR.out]
       rw [← hfl2] at r2
       obtain ⟨Af, cf, rfl⟩ := Kd.R_slice r2
       rw [hfll]
       have XU2 := Lib.hid (XU.out.below b2 XU.out.lt)
       have B2 := Lib.hid (B1.out.trans (b2.mono B1.out.size))
       clear r1 r2 b2 hfl2 hfll)
    | fail)
  go_loopg [9] (c + 2) (fun mm iv wr => ∃ k : Nat, iv = .int .i64 k ∧ Aside1 (k + mm = c + 2 ∧ k ≤ c + 1) ∧ Aside1 (planV S c = planN S c fr mm k) ∧ Aside1 (Below w2.heap.size w2 wr))
  case atStart => exact ⟨0, rfl, ⟨by omega, by omega⟩, ⟨HPV.out⟩, ⟨Below.refl _ _⟩⟩
  case round =>
    obtain ⟨k, rfl, ⟨hkm, hk1⟩, ⟨hP⟩, ⟨hB⟩⟩ := hrel
    have KM := Lib.hid hkm
    have HP := Lib.hid hP
    have BR := Lib.hid hB
    have B3 := Lib.hid (B2.out.trans (hB.mono B2.out.size))
    have hki : (k : Int) ≤ 101 := by omega
    obtain ⟨m, rfl⟩ : ∃ m, gk = m + 1 := ⟨gk - 1, by omega⟩
    clear hkm hP hB
    have XR := Lib.hid (XU2.out.below BR.out XU2.out.lt)
    have hfc := first_c B (uL (usedP S) c) (fr + k) wr XR.out (by rw [uL_len]; omega)
    rw [uL_len, show (((fr + k : Nat) : Nat) : Int) = (fr : Int) + (k : Int) by omega] at hfc
    have FC := Lib.hid hfc
    clear hfc
    by_cases hlt : (freeS S c).length < fr + k
    · have hV : firstV (uL (usedP S) c) (fr + k) = ([], 7) := if_pos hlt
      rw [hV] at FC
      have hPV : planV S c = ([], [], mostV S c fr, 7) := by rw [HP.out]; unfold planN; rw [if_pos hlt]
      have HPV2 := Lib.hid hPV
      have MO : Hid (∀ W, Below w.heap.size w W → Calls Try.prog 59 #[.pointer (some ⟨s, 0, none⟩), .int .i64 (fr : Int)] W fun e w' => e = .returned (.int .i64 (mostV S c fr)) ∧ Below W.heap.size W w') := Lib.hid (fun W hb => by rw [HCE.out]; exact most_w (H0.out.below hb 0) HO.out fr hfr2)
      clear hV hPV
      go_wp2_with (first
        | (go_at_call 58; refine FC.out.mono ?_; rintro e w4 ⟨v, rfl, r4, b4⟩; have B4 := Lib.hid (B3.out.trans (b4.mono B3.out.size)); clear r4 b4)
        | (go_at_call 59; refine (MO.out _ B4.out).mono ?_; rintro e w5 ⟨rfl, b5⟩; have B5 := Lib.hid (B4.out.trans (b5.mono B4.out.size)); clear b5)
        | fail)
      rw [HPV2.out]
      (try simp only [Exit.inBlock, Exit.then])
      refine bodyPost_ret (results_tmp4 rfl _ _ _) rfl ?_
      exact ⟨_, _, rfl, Row.nil _ _ _, Row.nil _ _ _, B5.out⟩
    · obtain ⟨L, hL⟩ : ∃ L, L = (freeS S c).take (fr + k) := ⟨_, rfl⟩
      have hLl : L.length = fr + k := by rw [hL, List.length_take]; omega
      have hV : firstV (uL (usedP S) c) (fr + k) = (L, 0) := by rw [hL]; exact if_neg hlt
      rw [hV] at FC
      have hdat : L.take fr = (freeS S c).take fr := by rw [hL, List.take_take, Nat.min_eq_left (by omega)]
      have hL1 : fr + k ≤ 100 := by omega
      have HSM := Lib.hid (HO.out.small (pl := (freeS S c).take fr) (fun y hy => by obtain ⟨q, h1, _, rfl⟩ := freeS_mem.1 (List.mem_of_mem_take hy); omega))
      obtain ⟨tl, htle⟩ : ∃ tl, tl = (tab S.now ((freeS S c).take fr)).1 := ⟨_, rfl⟩
      have htl := tab_len HSM.out
      rw [← htle] at htl
      have htli : (tl.length : Int) ≤ 7280 := by omega
      have T1 : Hid (∀ W (A : Option Addr) (cc : Nat), Below w.heap.size w W → fr ≤ cc → (Kd.int .i64).C W A fr ((freeS S c).take fr) → Calls Try.prog 57 #[.pointer (some ⟨s, 0, none⟩), .slice A fr cc] W fun e w' => ∃ bv fv, e = .returned (.tuple #[bv, fv]) ∧ (Kd.int .u8).R 5 w' W.heap.size (fun _ => True) bv tl ∧ Below W.heap.size W w') := Lib.hid (fun W A cc hb hcc hC => by
        have el : ((freeS S c).take fr).length = fr := by rw [List.length_take]; omega
        have h := table_c (H0.out.below hb 0) A cc ((freeS S c).take fr) (by rw [el]; exact hC) (by rw [el]; exact hcc) HSM.out
        rw [el, ← htle] at h
        exact h.mono (fun e w' ⟨bv, fv, h1, h2, _, h3⟩ => ⟨bv, fv, h1, h2, h3⟩))
      have HL := Lib.hid hL
      have HLL := Lib.hid hLl
      have HDT := Lib.hid hdat
      have HTL := Lib.hid htle
      have HLT := Lib.hid hlt
      clear hL hV hdat htle hlt
      go_wp2_with fail
      refine FC.out.mono ?_
      rintro e w4 ⟨v, rfl, r4, b4⟩
      have R4 := Lib.hid (Row.of_R (Kd.R_bound r4) (by omega))
      have B4 := Lib.hid (B3.out.trans (b4.mono B3.out.size))
      have BB4 := Lib.hid b4
      clear r4 b4
      obtain ⟨A4, c4, rfl, hc4, h54, hA4⟩ := R4.out
      rcases hA4 with ⟨rfl, rfl⟩ | ⟨b, o, rfl, hob, hbl, hcell⟩
      · obtain rfl : fr = 0 := by have := HLL.out; omega
        obtain rfl : k = 0 := by have := HLL.out; omega
        have T2 := Lib.hid (T1.out w4 none 0 B4.out (Nat.le_refl _) (by rw [List.take_zero]; exact Kd.C_nil (Kd.int .i64) w4))
        have hle0 : L.length = 0 := by have := HLL.out; omega
        rw [hle0]
        by_cases hle : pagesN tl.length ≤ 0
        · have hlei : ((tl.length : Int) + 112 - 1) / 112 ≤ 0 := by unfold pagesN at hle; omega
          have hPV : planV S c = ([], [], 0, 0) := by
            rw [HP.out]
            unfold planN
            rw [if_neg HLT.out, ← HTL.out, if_pos hle]
            simp
          have HPV2 := Lib.hid hPV
          clear hPV hle
          go_wp2_with (first
            | (go_at_call 57; refine T2.out.mono ?_; rintro e w5 ⟨bv5, fv5, rfl, r5, b5⟩; obtain ⟨A5, c5, rfl⟩ := Kd.R_slice r5; have B5 := Lib.hid (B4.out.trans (b5.mono B4.out.size)); have BB5 := Lib.hid b5; clear r5 b5)
            | fail)
          go_region
          go_wp2_with fail
          rw [HPV2.out]
          (try simp only [Exit.inBlock, Exit.then])
          refine bodyPost_ret (results_tmp4 rfl _ _ _) rfl ?_
          exact ⟨_, _, rfl, Row.nil _ _ _, Row.nil _ _ _, B5.out.trans (Below.drew (Below.refl _ _))⟩
        · have hlei : ¬ ((tl.length : Int) + 112 - 1) / 112 ≤ 0 := by unfold pagesN at hle; omega
          have hPV : planV S c = planN S c 0 m (0 + 1) := by
            rw [HP.out]
            conv => lhs; unfold planN
            rw [if_neg HLT.out, ← HTL.out, if_neg hle]
          have HPV2 := Lib.hid hPV
          clear hPV hle
          go_wp2_with (first
            | (go_at_call 57; refine T2.out.mono ?_; rintro e w5 ⟨bv5, fv5, rfl, r5, b5⟩; obtain ⟨A5, c5, rfl⟩ := Kd.R_slice r5; have B5 := Lib.hid (B4.out.trans (b5.mono B4.out.size)); have BB5 := Lib.hid b5; clear r5 b5)
            | fail)
          have BR5 := Lib.hid (show Below w2.heap.size w2 w5 from BR.out.trans ((BB4.out.mono BR.out.size).trans (BB5.out.mono (Nat.le_trans BR.out.size BB4.out.size))))
          go_roundg m
          case measure => omega
          case rel => exact ⟨0 + 1, (by simp), ⟨by have := KM.out; omega, by have := HLT.out; omega⟩, ⟨HPV2.out⟩, ⟨BR5.out⟩⟩
      · have hCd : (Kd.int .i64).C w4 (some ⟨b, o, none⟩) fr ((freeS S c).take fr) := by
          obtain ⟨A', c', hv, _, hC, _⟩ := (Row.take (ok := fun _ => True) trivial hbl rfl hc4 h54 hcell fr (by omega)).reads
          injection hv with hA hf hcc
          rw [← HDT.out]
          have e : (L.take fr).length = fr := by rw [List.length_take]; omega
          rw [e] at hC
          rw [hA]
          exact hC
        have T2 := Lib.hid (T1.out w4 (some ⟨b, o, none⟩) c4 B4.out (by omega) hCd)
        have HCELL := Lib.hid hcell
        have HOB := Lib.hid hob
        have hfrc : (fr : Int) ≤ (c4 : Int) := by omega
        have hfrc2 : (fr : Int) ≤ ((fr + k : Nat) : Int) := by omega
        have hc4' : fr + k ≤ c4 := by omega
        rw [HLL.out]
        clear hcell hob hCd
        by_cases hle : pagesN tl.length ≤ k
        · have hlei : ((tl.length : Int) + 112 - 1) / 112 ≤ (k : Int) := by unfold pagesN at hle; omega
          have hPV : planV S c = ((freeS S c).take fr, ((freeS S c).take (fr + k)).drop fr, ((fr + k : Nat) : Int), 0) := by
            rw [HP.out]
            unfold planN
            rw [if_neg HLT.out, ← HTL.out, if_pos hle]
          have HPV2 := Lib.hid hPV
          clear hPV hle
          go_wp2_with (first
            | (go_at_call 57; refine T2.out.mono ?_; rintro e w5 ⟨bv5, fv5, rfl, r5, b5⟩; obtain ⟨A5, c5, rfl⟩ := Kd.R_slice r5; have B5 := Lib.hid (B4.out.trans (b5.mono B4.out.size)); have BB5 := Lib.hid b5; clear r5 b5)
            | fail)
          go_region
          go_wp2_with fail
          all_goals
            rw [HPV2.out]
            (try simp only [Exit.inBlock, Exit.then])
            refine bodyPost_ret (results_tmp4 rfl _ _ _) rfl ?_
            have hdr : Below w4.heap.size w4 w5.drew := BB5.out.trans (Below.drew (Below.refl _ _))
            have hbl5 : b < w5.drew.heap.size := Nat.lt_of_lt_of_le hbl hdr.size
            have hcell5 : ∀ j (hj : j < L.length), w5.drew.cell? ⟨b, o + j, none⟩ = some (.int .i64 L[j]) := fun j hj => (hdr.cell (p := ⟨b, o + j, none⟩) hbl).trans (HCELL.out j hj)
            have hwb : w.heap.size ≤ b := Nat.le_trans B3.out.size HOB.out.2.1
            refine ⟨_, _, rfl, ?_, ?_, B5.out.trans (Below.drew (Below.refl _ _))⟩
            · rw [← HDT.out]
              have h := Row.take (ok := fun q => w.heap.size ≤ q) hwb hbl5 HLL.out.symm hc4' (by omega) hcell5 fr (by omega)
              first
                | exact h
                | (have hcf : c4 = fr := by assumption
                   rw [hcf] at h
                   exact h)
            · rw [← HL.out]
              first
                | (have h := Row.drop (ok := fun q => w.heap.size ≤ q) hwb hbl5 HLL.out.symm hc4' (by omega) hcell5 fr (by omega)
                   rw [show fr + k - fr = k by omega] at h
                   exact h)
                | (have hk0 : k = 0 := by omega
                   have e : L.drop fr = [] := List.drop_of_length_le (by have := HLL.out; omega)
                   rw [e]
                   subst hk0
                   exact ⟨_, _, rfl, by simp, by simp, .inr ⟨b, o, rfl, hwb, hbl5, fun j hj => absurd hj (by simp)⟩⟩)
        · have hlei : ¬ ((tl.length : Int) + 112 - 1) / 112 ≤ (k : Int) := by unfold pagesN at hle; omega
          have hPV : planV S c = planN S c fr m (k + 1) := by
            rw [HP.out]
            conv => lhs; unfold planN
            rw [if_neg HLT.out, ← HTL.out, if_neg hle]
          have HPV2 := Lib.hid hPV
          clear hPV hle
          go_wp2_with (first
            | (go_at_call 57; refine T2.out.mono ?_; rintro e w5 ⟨bv5, fv5, rfl, r5, b5⟩; obtain ⟨A5, c5, rfl⟩ := Kd.R_slice r5; have B5 := Lib.hid (B4.out.trans (b5.mono B4.out.size)); have BB5 := Lib.hid b5; clear r5 b5)
            | fail)
          have BR5 := Lib.hid (show Below w2.heap.size w2 w5 from BR.out.trans ((BB4.out.mono BR.out.size).trans (BB5.out.mono (Nat.le_trans BR.out.size BB4.out.size))))
          go_roundg m
          case measure => omega
          case rel => exact ⟨k + 1, (by simp), ⟨by have := KM.out; omega, by have := HLT.out; omega⟩, ⟨HPV2.out⟩, ⟨BR5.out⟩⟩
end Go.Proofs.Ytochnokfcfmgnaa.St
end

section
/- Seat F: Commit, walked, on a disk of any life. -/
namespace Go.Proofs.Ytochnokfcfmgnaa.St
open Go Go.RowKit Go.Proofs.Ytochnokfcfmgnaa.Mem Go.Proofs.YtochnokfcfmgnaaW.PrintWords Go.Proofs.Ytochnokfcfmgnaa.Dk Go.Maps Go.ChangeMaps Go.Proofs.Ytochnokfcfmgnaa.Sh Go.Proofs.Ytochnokfcfmgnaa.Sp Go.Proofs.Ytochnokfcfmgnaa.Pg
set_option linter.unusedVariables false
set_option linter.unusedSimpArgs false
set_option maxRecDepth 100000
set_option maxHeartbeats 4000000
theorem plan_lv (S : SV) (l : Int) (c : Nat) : planV (lv S l) c = planV S c := by rw [planV_eq, planV_eq]; rfl
/-- What Commit says in the end. -/
def CoQ (l : Int) (w : World) (own : Nat → Nat) (base g n : Nat) (S : SV) (e : Ending) (w' : World) : Prop :=
  ∃ (r : Int) (y : DV) (l' : Int), e = .returned (.int .i64 r) ∧ IsDisk w' base (fun b => own b = 1 ∨ w.heap.size ≤ b) g (y.live l') ∧ Only w w' (fun k => own k = 1 ∨ own k = 3) ∧ 0 ≤ l' ∧ l' ≤ l ∧
    ((¬ Fits S (n / 4) ∧ r = 7 ∧ y = S.x) ∨ (Fits S (n / 4) ∧ r = 0 ∧ 0 < l ∧ y = (cmV S (dataP S (n / 4)) (tabsP S (n / 4))).x) ∨ (Fits S (n / 4) ∧ r = 3 ∧ Mid S (dataP S (n / 4)) (tabsP S (n / 4)) y))
theorem com_l {w : World} {own : Nat → Nat} {base g s n : Nat} {S : SV} {l : Int} (h : St w own base g s (lv S l)) (hl0 : 0 ≤ l) (hlm : l ≤ 9223372036854775807) (hO : Ok n S) (hep : S.epoch + 1 < 18446744073709551616) :
    Calls Try.prog 23 #[.pointer (some ⟨s, 0, none⟩)] w fun e w' => CoQ l w own base g n S e w' := by
  have H0 := Lib.hid h
  have HO := Lib.hid hO
  have HEP := Lib.hid hep
  have PL := Lib.hid (plan_w h (hO.weak (hO.good.live hl0 hlm)))
  rw [plan_lv] at PL
  obtain ⟨bk, bn, tv, hs, h2, h3, h4, h5, h6, h7, h8⟩ := h.blk
  have HCk := Lib.hid (Go.Proofs.Ytochnokfcfmgnaa.Sh.check_ok s _ _ _ _ _ _ 0 w hs (by omega) (by omega))
  clear hs h2 h3 h4 h5 h6 h7 h8 h hO hep
  by_cases hf : Fits S (n / 4)
  · have HF := Lib.hid hf
    have hpl : planV S (n / 4) = (dataP S (n / 4), tabsP S (n / 4), (((freshN S.now).length + tabN S (n / 4) : Nat) : Int), 0) := by
      rw [planV_eq, if_neg (by unfold Fits at hf; omega)]; rfl
    rw [hpl] at PL
    clear hpl hf
    obtain ⟨dl, hdl⟩ : ∃ dl, dl = dataP S (n / 4) := ⟨_, rfl⟩
    obtain ⟨tl, htl⟩ : ∃ tl, tl = tabsP S (n / 4) := ⟨_, rfl⟩
    have hr1 : ∀ x ∈ dl, 2 ≤ x ∧ x < ((n / 4 : Nat) : Int) := by rw [hdl]; exact dataP_range
    have hr2 : ∀ x ∈ tl, 2 ≤ x ∧ x < ((n / 4 : Nat) : Int) := by rw [htl]; exact tabsP_range
    have hl1 : dl.length = (freshN S.now).length := by rw [hdl]; exact dataP_len HF.out
    have hl2 : tl.length ≤ 1000 := by have h1 := tabsP_le (S := S) (c := n / 4); rw [← htl] at h1; have h2 := HO.out.n2; omega
    rw [← hdl, ← htl] at PL
    have HDL := Lib.hid hdl
    have HTL := Lib.hid htl
    have HR1 := Lib.hid hr1
    have HR2 := Lib.hid hr2
    have HL1 := Lib.hid hl1
    clear hdl htl hr1 hr2 hl1
    go_enter Try.func23, Try.ntmps23
    go_wp2_with (first
      | (go_at_call 32; with_reducible refine HCk.out.mono ?_; rintro e wz ⟨rfl, hwz⟩; rw [hwz]; clear hwz)
      | (go_at_call 42; refine PL.out.mono ?_; rintro e w1 ⟨dv, tv1, rfl, r1, r2, b1⟩; have R1 := Lib.hid r1; have R2 := Lib.hid r2; have B1 := Lib.hid b1; clear r1 r2 b1)
      | fail)
    have S1 := H0.out.below B1.out 2
    have CC := Lib.hid (commit_l S1 hl0 hlm HO.out dv tv1 dl tl (R1.out.mono (fun b _ hb => upd_ge hb)) (R2.out.mono (fun b _ hb => upd_ge hb)) HR1.out HR2.out HL1.out hl2 HEP.out)
    clear S1
    go_wp2_with fail
    refine CC.out.mono ?_
    rintro e w2 ⟨r, y, l', rfl, d2, o2, ⟨cs, hcs, hcl⟩, qa, qb, h2⟩
    have D2 := Lib.hid d2
    have O2 := Lib.hid o2
    have HCS := Lib.hid hcs
    clear d2 o2
    have hz := B1.out.size
    have q0 : ∀ k, k < w.heap.size → upd own w.heap.size 2 k = own k := fun k hk => upd_lt hk
    have XO : Only w w2 (fun k => own k = 1 ∨ own k = 3) := (Only.of_below B1.out (fun k => own k = 1 ∨ own k = 3)).step O2.out (fun k hk h => by rw [q0 k hk] at h; exact h)
    have DOK : ∀ b, (upd own w.heap.size 2 b = 1 ∨ w1.heap.size ≤ b) → (own b = 1 ∨ w.heap.size ≤ b) := fun b hb => by
      by_cases hbw : b < w.heap.size
      · rw [upd_lt hbw] at hb; rcases hb with hb | hb; exact .inl hb; exact .inr (by omega)
      · exact .inr (by omega)
    rcases h2 with ⟨rfl, h0, rfl⟩ | ⟨rfl, hmid⟩
    · go_wp2_with fail
      go_ret
      exact ⟨0, _, l', rfl, D2.out.mono DOK, XO, qa, qb, .inr (.inl ⟨HF.out, rfl, h0, by rw [HDL.out, HTL.out]⟩)⟩
    · have f6 := HCS.out.frozen 6
      obtain ⟨u6, hu6⟩ : ∃ u6, cs[6]? = some u6 := ⟨_, List.getElem?_eq_getElem (by omega)⟩
      have c6 := HCS.out.cell_at 6 u6 hu6
      have HMID := Lib.hid hmid
      clear hmid hu6
      go_wp2_with fail
      go_ret
      obtain ⟨_, _, _, hsb, osb, _⟩ := H0.out.blk
      refine ⟨3, y, l', rfl, ((D2.out.bound).keep ((Only.refl w2 (fun k => k = s)).setCell (p := ⟨s, 6, none⟩) (fun _ => rfl) _) (fun b hb e => ?_)).mono (fun b hb => DOK b hb.1), XO.step ((Only.refl w2 (fun k => k = s)).setCell (p := ⟨s, 6, none⟩) (fun _ => rfl) _) (fun b hb e => .inr (by rw [e]; exact osb)), qa, qb, .inr (.inr ⟨HF.out, rfl, by rw [← HDL.out, ← HTL.out]; exact HMID.out⟩)⟩
      rcases hb.1 with h1 | h1
      · rw [e, q0 s hsb.lt, osb] at h1; cases h1
      · have := hsb.lt; omega
  · have hpl : planV S (n / 4) = ([], [], mostV S (n / 4) (freshN S.now).length, 7) := by
      rw [planV_eq, if_pos (by unfold Fits at hf; omega)]
    have HNF := Lib.hid hf
    rw [hpl] at PL
    clear hpl hf
    go_enter Try.func23, Try.ntmps23
    go_wp2_with (first
      | (go_at_call 32; with_reducible refine HCk.out.mono ?_; rintro e wz ⟨rfl, hwz⟩; rw [hwz]; clear hwz)
      | (go_at_call 42; refine PL.out.mono ?_; rintro e w1 ⟨dv, tv1, rfl, r1, r2, b1⟩; have R1 := Lib.hid r1; have R2 := Lib.hid r2; have B1 := Lib.hid b1; clear r1 r2 b1)
      | fail)
    go_ret
    refine ⟨7, S.x, l, rfl, (H0.out.disk.bound.keep (Only.of_below B1.out (fun _ => False)) (fun _ _ h => h)).mono (fun b hb => .inl hb.1), Only.of_below B1.out _, hl0, Int.le_refl _, .inl ⟨HNF.out, rfl, rfl⟩⟩
end Go.Proofs.Ytochnokfcfmgnaa.St
end
