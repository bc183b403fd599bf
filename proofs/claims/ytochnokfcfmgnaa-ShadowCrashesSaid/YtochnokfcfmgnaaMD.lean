/- Texts merged: a section each. -/
import Derived.Test.YtochnokfcfmgnaaMC
/- Seat F: commit, walked. -/
namespace Go.Proofs.Ytochnokfcfmgnaa.St
open Go Go.RowKit Go.Proofs.Ytochnokfcfmgnaa.Mem Go.Proofs.YtochnokfcfmgnaaW.PrintWords Go.Proofs.Ytochnokfcfmgnaa.Dk Go.Maps Go.ChangeMaps Go.Proofs.Ytochnokfcfmgnaa.Sh Go.Proofs.Ytochnokfcfmgnaa.Sp Go.Proofs.Ytochnokfcfmgnaa.Pg
set_option linter.unusedVariables false
set_option linter.unusedSimpArgs false
set_option maxRecDepth 100000
set_option maxHeartbeats 4000000
attribute [local go_sem] Go.Proofs.YtochnokfcfmgnaaW.PrintMore.min_two
theorem wrap64_id {x : Int} (h0 : -1000000 ≤ x) (h1 : x ≤ 1000000) : IntKind.i64.wrap x = x := by
  simp [IntKind.wrap, IntKind.bits, IntKind.signed]
  omega
theorem Mp.unique {w : World} {b : Nat} {m m' : Int → Option Value} (h : Mp w b m) (h' : Mp w b m') : m = m' := by
  obtain ⟨D, ⟨es, cl, hh, F, _, hD⟩, k⟩ := h
  obtain ⟨D', ⟨es', cl', hh', F', _, hD'⟩, k'⟩ := h'
  rw [hh] at hh'
  injection hh' with e
  injection e with e1 e2
  subst e1
  obtain rfl : D = D' := by rw [hD, hD']
  funext i
  have h1 := (k i).1
  have h2 := (k' i).1
  rw [h1] at h2
  rcases hm : m i with _ | v <;> rcases hm' : m' i with _ | v'
  · rfl
  · rw [hm, hm'] at h2; cases h2
  · rw [hm, hm'] at h2; cases h2
  · have h3 := (k i).2 .nilFunc
    have h4 := (k' i).2 .nilFunc
    rw [h3, hm, hm'] at h4
    injection h4 with h4
    exact congrArg some h4
theorem C_cells {w : World} {k : IntKind} {b o : Nat} {xs : List Int} (h : ∀ j (hj : j < xs.length), w.cell? ⟨b, o + j, none⟩ = some (.int k xs[j])) (hl : xs.length ≤ 100000) : (Kd.int k).C w (some ⟨b, o, none⟩) xs.length xs := by
  refine ⟨rfl, by omega, fun hp => ⟨_, rfl, fun j p hj => ?_⟩⟩
  obtain ⟨hjl, rfl⟩ := List.getElem?_eq_some_iff.1 hj
  refine ⟨[.int k xs[j]], rfl, rfl, fun i u hu => ?_⟩
  match i, hu with
  | 0, hu =>
    injection hu with hu
    rw [← hu, add_flat]
    have e : (Kd.int k).sz = 1 := rfl
    rw [e, Nat.mul_one, Nat.add_zero]
    exact h j hjl
theorem Row.part {w : World} {ok : Nat → Prop} {k : IntKind} {b o c : Nat} {xs : List Int} (h : Row w ok k (.slice (some ⟨b, o, none⟩) xs.length c) xs) {lo hi : Nat} (h1 : lo ≤ hi) (h2 : hi ≤ xs.length) {p : List Int} (hp : p = (xs.take hi).drop lo) : p.length = hi - lo ∧ (Kd.int k).C w (some ⟨b, o + lo, none⟩) p.length p := by
  obtain ⟨A, c', e, _, hl, hx⟩ := h
  injection e with e1 _ _
  subst e1
  have hpl : p.length = hi - lo := by rw [hp, List.length_drop, List.length_take]; omega
  refine ⟨hpl, C_cells (fun j hj => ?_) (by omega)⟩
  rcases hx with ⟨hx, _⟩ | ⟨b', o', hx, _, _, hc⟩
  · cases hx
  · injection hx with hx
    injection hx with e1 e2 _
    subst e1
    subst e2
    have h3 := hc (lo + j) (by omega)
    rw [Nat.add_assoc, h3]
    congr 2
    subst hp
    rw [List.getElem_drop, List.getElem_take]
theorem Row.cell_ {w : World} {ok : Nat → Prop} {k : IntKind} {ad : Addr} {c : Nat} {xs : List Int} (h : Row w ok k (.slice (some ad) xs.length c) xs) (j : Nat) (hj : j < xs.length) : w.cell? ⟨ad.block, ad.off + j, none⟩ = some (.int k xs[j]) := by
  obtain ⟨A, c', e, _, hl, hx⟩ := h
  injection e with e1 _ _
  subst e1
  rcases hx with ⟨hx, _⟩ | ⟨b', o', hx, _, _, hc⟩
  · cases hx
  · injection hx with hx
    subst hx
    exact hc j hj
theorem St.page_step {w w4 w5 : World} {own : Nat → Nat} {base g s bk bn : Nat} {tv : Value} {S : SV} {m : Int → Option Value} (h : St w own base g s S) {x : DV} (hd : IsDisk w4 base (fun k => own k = 1 ∨ w.heap.size ≤ k) g x) (ho : Only w w4 (fun k => own k = 1))
    (hs : Blk w s 76 [.pointer (some ⟨g, 0, none⟩), .int .i64 S.root, .int .u64 S.epoch, tv, .map (some bk), .map (some bn), .bool false]) (hos : own s = 3) (hm : Mp w bn m) (hob : own bn = 3) (q a : Nat) (d : List Int) (pv : Value) (hq : q < 728) (hrow : Row w (fun k => own k = 2) .u8 pv d)
    (hm5 : Mp w5 bn (fun y => if y = (q : Int) then some (.agg #[.int .i64 (a : Int), pv]) else m y)) (ho5 : Only w4.drew w5 (fun k => k = bn)) :
    ∃ own', (∀ k, k < w.heap.size → own' k = own k) ∧ St w5 own' base g s { S with x := x, now := fun j => if j = q then some (a, d) else S.now j } := by
  have SD := h.disk_step hd ho
  have SK := SD.keep ((Only.refl w4 (fun _ => False)).drew) (fun _ _ h => h) 2
  have hsz : w.heap.size ≤ w4.heap.size := ho.size
  have hup : ∀ k, k < w.heap.size → upd (upd own w.heap.size 1) w4.heap.size 2 k = own k := fun k hk => by rw [upd_lt (by omega), upd_lt hk]
  obtain ⟨bk', bn', tv', hs', k2, k3, k4, k5, k6, k7, ⟨m', hm', hdom', hat'⟩⟩ := SK.blk
  have hsw : Blk w4.drew s 76 _ := (hs.keep ho (by rw [hos]; decide)).drew
  have e := hs'.inj hsw
  have hmw : Mp w4.drew bn m := (hm.step ho (by rw [hob]; decide)).drew
  injection e with _ e
  injection e with _ e
  injection e with _ e
  injection e with _ e
  injection e with _ e
  injection e with e _
  injection e with e
  injection e with e
  subst e
  obtain rfl := hm'.unique hmw
  have hrow5 : Row w5 (fun k => upd (upd (upd own w.heap.size 1) w4.heap.size 2) w4.drew.heap.size 2 k = 2) .u8 pv d := by
    have h1 := (hrow.mono (ok' := fun k => own k = 2 ∧ k < w.heap.size) (fun b hb h => ⟨h, hb⟩)).keep ho (fun b hb h2 => by rw [hb.1] at h2; cases h2)
    have h2 := h1.keep ((Only.refl w4 (fun _ => False)).drew) (fun _ _ h => h)
    have h3 := h2.keep ho5 (fun b hb e => by rw [e, hob] at hb; exact absurd hb.1 (by decide))
    exact h3.mono (fun b _ hb => by rw [upd_lt (by show b < w4.heap.size; omega), hup b hb.2]; exact hb.1)
  refine ⟨_, fun k hk => ?_, SK.turn_now hs' k2 k3 k4 k5 k6 k7 hm'.lt (hm'.ne hs') ho5 _ (MapAt.turn hdom' hat' k4 ho5 q hq (some (.agg #[.int .i64 (a : Int), pv])) (some (a, d)) hm5 ⟨pv, rfl, hrow5⟩)⟩
  rw [upd_lt (by show k < w4.heap.size; omega), hup k hk]
/-- The store's block and its maps, by their names. -/
def BlkF (w : World) (own : Nat → Nat) (g s bk bn : Nat) (tv : Value) (S : SV) : Prop := Blk w s 76 [.pointer (some ⟨g, 0, none⟩), .int .i64 S.root, .int .u64 S.epoch, tv, .map (some bk), .map (some bn), .bool false] ∧ own s = 3 ∧ own bk = 3 ∧ own bn = 3 ∧ bk ≠ bn ∧
    Row w (fun k => own k = 2) .i64 tv S.tabs ∧ MapAt w (fun k => own k = 2) bk S.kept ∧ MapAt w (fun k => own k = 2) bn S.now
theorem BlkF.keep {w w' : World} {own : Nat → Nat} {g s bk bn : Nat} {tv : Value} {S : SV} (h : BlkF w own g s bk bn tv S) {T : Nat → Prop} (ho : Only w w' T) (hT : ∀ k, own k = 2 ∨ own k = 3 → ¬ T k) (j : Nat) : BlkF w' (upd own w.heap.size j) g s bk bn tv S := by
  obtain ⟨h1, h2, h3, h4, h5, h6, h7, h8⟩ := h
  have lk := h7.lt
  have ln := h8.lt
  refine ⟨h1.keep ho (hT s (.inr h2)), by rw [upd_lt h1.lt]; exact h2, by rw [upd_lt lk]; exact h3, by rw [upd_lt ln]; exact h4, h5, ?_, ?_, ?_⟩
  · exact (h6.mono (ok' := fun k => own k = 2 ∧ k < w.heap.size) (fun b hb h => ⟨h, hb⟩)).keep ho (fun b hb => hT b (.inl hb.1)) |>.mono (fun b _ hb => by rw [upd_lt hb.2]; exact hb.1)
  · exact (h7.mono (ok' := fun k => own k = 2 ∧ k < w.heap.size) (fun b hb h => ⟨h, hb⟩)).keep ho (fun b hb => hT b (.inl hb.1)) (hT bk (.inr h3)) |>.mono (fun b _ hb => by rw [upd_lt hb.2]; exact hb.1)
  · exact (h8.mono (ok' := fun k => own k = 2 ∧ k < w.heap.size) (fun b hb h => ⟨h, hb⟩)).keep ho (fun b hb => hT b (.inl hb.1)) (hT bn (.inr h4)) |>.mono (fun b _ hb => by rw [upd_lt hb.2]; exact hb.1)
/-- The store's own numbers are others. -/
theorem St.turn_s {w w' : World} {own : Nat → Nat} {base g s bk bn : Nat} {tv tv' : Value} {S : SV} {rt ep : Int} {tabs : List Int} (h : St w own base g s S) (h1 : Blk w s 76 [.pointer (some ⟨g, 0, none⟩), .int .i64 S.root, .int .u64 S.epoch, tv, .map (some bk), .map (some bn), .bool false]) (h2 : own s = 3) (h3 : own bk = 3) (h4 : own bn = 3) (h5 : bk ≠ bn)
    (h7 : MapAt w (fun k => own k = 2) bk S.kept) (h8 : MapAt w (fun k => own k = 2) bn S.now) (ho : Only w w' (fun k => k = s)) (h1' : Blk w' s 76 [.pointer (some ⟨g, 0, none⟩), .int .i64 rt, .int .u64 ep, tv', .map (some bk), .map (some bn), .bool false])
    (h6 : Row w (fun k => own k = 2) .i64 tv' tabs) : St w' (upd own w.heap.size 2) base g s { S with root := rt, epoch := ep, tabs := tabs } := by
  have lk := h7.lt
  have ln := h8.lt
  have nk : bk ≠ s := by obtain ⟨m, hm, _⟩ := h7; exact fun e => hm.ne h1 e.symm
  have nn : bn ≠ s := by obtain ⟨m, hm, _⟩ := h8; exact fun e => hm.ne h1 e.symm
  refine ⟨Nat.le_trans h.hb ho.size, fun k hk => ?_, (h.disk.bound.keep ho (fun k hk e => by rw [e, h2] at hk; exact absurd hk.1 (by decide))).mono (fun k hk => by rw [upd_lt hk.2.2]; exact hk.1), bk, bn, tv', h1', by rw [upd_lt h1.lt]; exact h2, by rw [upd_lt lk]; exact h3, by rw [upd_lt ln]; exact h4, h5, ?_, ?_, ?_⟩
  · by_cases hk2 : k < w.heap.size
    · rw [upd_lt hk2] at hk; exact h.lo k hk
    · have := h.hb; omega
  · exact (h6.mono (ok' := fun k => own k = 2 ∧ k < w.heap.size) (fun b hb h => ⟨h, hb⟩)).keep ho (fun b hb e => by rw [e, h2] at hb; exact absurd hb.1 (by decide)) |>.mono (fun b _ hb => by rw [upd_lt hb.2]; exact hb.1)
  · exact (h7.mono (ok' := fun k => own k = 2 ∧ k < w.heap.size) (fun b hb h => ⟨h, hb⟩)).keep ho (fun b hb e => by rw [e, h2] at hb; exact absurd hb.1 (by decide)) nk |>.mono (fun b _ hb => by rw [upd_lt hb.2]; exact hb.1)
  · exact (h8.mono (ok' := fun k => own k = 2 ∧ k < w.heap.size) (fun b hb h => ⟨h, hb⟩)).keep ho (fun b hb e => by rw [e, h2] at hb; exact absurd hb.1 (by decide)) nn |>.mono (fun b _ hb => by rw [upd_lt hb.2]; exact hb.1)
/-- What is now is kept. -/
theorem St.turn_kept {w w2 : World} {own : Nat → Nat} {base g s bk bn : Nat} {tv : Value} {S : SV} {m : Int → Option Value} (h : St w own base g s S) (h1 : Blk w s 76 [.pointer (some ⟨g, 0, none⟩), .int .i64 S.root, .int .u64 S.epoch, tv, .map (some bk), .map (some bn), .bool false]) (h2 : own s = 3) (h3 : own bk = 3) (h4 : own bn = 3) (h5 : bk ≠ bn)
    (h6 : Row w (fun k => own k = 2) .i64 tv S.tabs) (hm : Mp w bn m) (hdom : ∀ i : Int, (m i).isSome = true → 0 ≤ i ∧ i < ((728 : Nat) : Int)) (hat : ∀ i : Nat, PgAt w (fun k => own k = 2) (m (i : Int)) (S.now i)) (M2 : Mp w2 w.heap.size m) (B2 : Below w.heap.size w w2) :
    St (w2.setCell ⟨s, 4, none⟩ (.map (some w.heap.size))) (upd own w.heap.size 3) base g s { S with kept := S.now } := by
  have hsl := h1.lt
  have hsz := B2.size
  have hbn := hm.lt
  have O3 : Only w (w2.setCell ⟨s, 4, none⟩ (.map (some w.heap.size))) (fun k => k = s) := (Only.of_below B2 (fun k => k = s)).setCell (fun _ => rfl) _
  have nn : bn ≠ s := fun e => hm.ne h1 e.symm
  have S2 := h1.below B2 h1.lt
  have h8 : MapAt w (fun k => own k = 2) bn S.now := ⟨m, hm, hdom, hat⟩
  refine ⟨Nat.le_trans h.hb O3.size, fun k hk => ?_, (h.disk.bound.keep O3 (fun k hk e => by rw [e, h2] at hk; exact absurd hk.1 (by decide))).mono (fun k hk => by rw [upd_lt hk.2.2]; exact hk.1), w.heap.size, bn, tv, S2.set_ 4 _, by rw [upd_lt hsl]; exact h2, upd_ge (Nat.le_refl _), by rw [upd_lt hbn]; exact h4, by omega, ?_, ?_, ?_⟩
  · by_cases hk2 : k < w.heap.size
    · rw [upd_lt hk2] at hk; exact h.lo k hk
    · have := h.hb; omega
  · exact (h6.mono (ok' := fun k => own k = 2 ∧ k < w.heap.size) (fun b hb h => ⟨h, hb⟩)).keep O3 (fun b hb e => by rw [e, h2] at hb; exact absurd hb.1 (by decide)) |>.mono (fun b _ hb => by rw [upd_lt hb.2]; exact hb.1)
  · refine ⟨m, M2.setCell (by show s ≠ w.heap.size; omega) _, hdom, fun i => ?_⟩
    exact ((hat i).mono (ok' := fun k => own k = 2 ∧ k < w.heap.size) (fun b hb h => ⟨h, hb⟩)).keep O3 (fun b hb e => by rw [e, h2] at hb; exact absurd hb.1 (by decide)) |>.mono (fun b _ hb => by rw [upd_lt hb.2]; exact hb.1)
  · exact (h8.mono (ok' := fun k => own k = 2 ∧ k < w.heap.size) (fun b hb h => ⟨h, hb⟩)).keep O3 (fun b hb e => by rw [e, h2] at hb; exact absurd hb.1 (by decide)) nn |>.mono (fun b _ hb => by rw [upd_lt hb.2]; exact hb.1)
theorem commit_c {w : World} {own : Nat → Nat} {base g s n : Nat} {S : SV} (h : St w own base g s S) (hO : Ok n S) (dv tv : Value) (data tabs : List Int) (hdv : Row w (fun k => own k = 2) .i64 dv data) (htv : Row w (fun k => own k = 2) .i64 tv tabs) (hd : ∀ p ∈ data, 2 ≤ p ∧ p < ((n / 4 : Nat) : Int)) (ht : ∀ p ∈ tabs, 2 ≤ p ∧ p < ((n / 4 : Nat) : Int))
    (hdl : data.length = (freshN S.now).length) (htl : tabs.length ≤ 1000) (hep : S.epoch + 1 < 18446744073709551616) :
    Calls Try.prog 43 #[.pointer (some ⟨s, 0, none⟩), dv, tv] w fun e w' => e = .returned (.bool true) ∧ (∃ own', (∀ k, k < w.heap.size → own' k = own k) ∧ St w' own' base g s (cmV S data tabs)) ∧ Only w w' (fun k => own k = 1 ∨ own k = 3) := by
  have H0 := Lib.hid h
  have HO := Lib.hid hO
  have HD := Lib.hid hd
  have HT := Lib.hid ht
  have hfl := freshN_len S.now
  obtain ⟨fr, hfr⟩ : ∃ fr, fr = (freshN S.now).length := ⟨_, rfl⟩
  rw [← hfr] at hdl hfl
  have hc1 : n / 4 ≤ 100 := by have := hO.n2; omega
  have HSM := Lib.hid (hO.small (pl := data) (fun y hy => by have := hd y hy; omega))
  obtain ⟨Ad, cd, rfl, hdc, hCd, _⟩ := hdv.reads
  obtain ⟨At, ct, rfl, htc, hCt, _⟩ := htv.reads
  have TB := Lib.hid (table_c h Ad cd data hCd hdc HSM.out)
  have HDV := Lib.hid hdv
  have HTV := Lib.hid htv
  obtain ⟨bs, hbs⟩ : ∃ bs, bs = (tab S.now data).1 := ⟨_, rfl⟩
  have hbl := tab_len HSM.out
  have hbb := tab_byte S.now data
  rw [← hbs] at hbl hbb
  have HBB := Lib.hid hbb
  obtain ⟨fl, hfle⟩ : ∃ fl, fl = (freshN S.now).map Int.ofNat := ⟨_, rfl⟩
  have hfll : fl.length = fr := by rw [hfle, List.length_map, hfr]
  rw [← hbs, ← hfle] at TB
  have HBS := Lib.hid hbs
  have HFL := Lib.hid hfle
  have HFR := Lib.hid hfr
  have HEP := Lib.hid hep
  have HDL := Lib.hid hdl
  have HFLL := Lib.hid hfll
  have hfri : (fr : Int) ≤ 728 := by omega
  clear h hO hd ht hdv htv hCd hCt hbs hbb hfle hfr hep hdl hfll
  go_enter Try.func43, Try.ntmps43
  go_wp2_with (first
    | (go_at_call 57; refine TB.out.mono ?_; rintro e w1 ⟨bv, fv, rfl, r1, r2, b1⟩
       have RB := Lib.hid (Row.of_R (Kd.R_bound r1) (by omega))
       have RF := Lib.hid (Row.of_R (Kd.R_bound r2) (by have := HFLL.out; omega))
       obtain ⟨Ab, cb, rfl⟩ := Kd.R_slice r1
       obtain ⟨Af, cf, rfl⟩ := Kd.R_slice r2
       have B1 := Lib.hid b1
       rw [HFLL.out] at RF ⊢
       clear r1 r2 b1)
    | fail)
  have S1 := Lib.hid (H0.out.below B1.out 2)
  obtain ⟨own1, how⟩ : ∃ own1, own1 = upd own w.heap.size 2 := ⟨_, rfl⟩
  have RB1 := Lib.hid (show Row w1 (fun k => own1 k = 2) .u8 (.slice Ab bs.length cb) bs from RB.out.mono (fun b _ hb => by rw [how]; exact upd_ge hb.2.1))
  have RF1 := Lib.hid (show Row w1 (fun k => own1 k = 2) .i64 (.slice Af fr cf) fl from RF.out.mono (fun b _ hb => by rw [how]; exact upd_ge hb.2.1))
  have RD1 := Lib.hid (show Row w1 (fun k => own1 k = 2) .i64 (.slice Ad data.length cd) data from ((HDV.out.mono (ok' := fun k => own k = 2 ∧ k < w.heap.size) (fun b hb h => ⟨h, hb⟩)).keep (Only.of_below B1.out (fun _ => False)) (fun _ _ h => h)).mono (fun b _ hb => by rw [how, upd_lt hb.2]; exact hb.1))
  have RT1 := Lib.hid (show Row w1 (fun k => own1 k = 2) .i64 (.slice At tabs.length ct) tabs from ((HTV.out.mono (ok' := fun k => own k = 2 ∧ k < w.heap.size) (fun b hb h => ⟨h, hb⟩)).keep (Only.of_below B1.out (fun _ => False)) (fun _ _ h => h)).mono (fun b _ hb => by rw [how, upd_lt hb.2]; exact hb.1))
  rw [← how] at S1
  have HOW := Lib.hid how
  clear RB RF HDV HTV how
  go_loopg [23] fr (fun mm iv wr => ∃ k : Nat, iv = .int .i64 k ∧ Aside1 (k + mm = fr) ∧ Aside1 (∃ own', (∀ k, k < w1.heap.size → own' k = own1 k) ∧ St wr own' base g s (fw S data k)) ∧ Aside1 (Only w1 wr (fun k => own1 k = 1 ∨ own1 k = 3)))
  case atStart => exact ⟨0, rfl, ⟨by omega⟩, ⟨own1, fun _ _ => rfl, S1.out⟩, ⟨Only.refl _ _⟩⟩
  case round =>
    obtain ⟨k, rfl, ⟨hkm⟩, ⟨own', how', hSt⟩, ⟨hOn⟩⟩ := hrel
    have KM := Lib.hid hkm
    have SR := Lib.hid hSt
    have OW := Lib.hid how'
    have ON := Lib.hid hOn
    have hkf : k ≤ fr := by omega
    have hk0 : (k : Int) ≤ 728 := by omega
    clear hkm hSt how' hOn
    have n12 : ∀ b, own1 b = 2 → ¬ (own1 b = 1 ∨ own1 b = 3) := fun b h h2 => by rw [h] at h2; rcases h2 with h2 | h2 <;> cases h2
    have RFr := RF1.out.keep ON.out n12
    have RDr := RD1.out.keep ON.out n12
    by_cases hk : k < fr
    · have hki : (k : Int) < (fr : Int) := by omega
      have hkd : k < data.length := by have := HDL.out; omega
      have hkfl : k < fl.length := by have := HFLL.out; omega
      have hkfn : k < (freshN S.now).length := by rw [← HFR.out]; exact hk
      obtain ⟨Af', cf', hv1, _, hCf, _⟩ := RFr.reads
      injection hv1 with hA1 hl1 hc1'
      subst hA1
      subst hc1'
      clear hl1
      obtain ⟨af, rfl, e1⟩ := int_at hCf k hkfl
      obtain ⟨q, hq⟩ : ∃ q, (freshN S.now)[k] = q := ⟨_, rfl⟩
      have hqf : fl[k] = (q : Int) := by
        have h1 : fl[k]? = some (q : Int) := by rw [HFL.out, List.getElem?_map, List.getElem?_eq_getElem hkfn, hq]; rfl
        rw [List.getElem?_eq_getElem hkfl] at h1
        injection h1
      rw [hqf] at e1
      have CM := fw_ok HO.out HD.out k (by omega) (by omega)
      obtain ⟨hq7, p, hp, hpd, hpl, hpb⟩ := CM.at_ HO.out (hq ▸ List.getElem_mem hkfn)
      obtain ⟨Ad', cd', hv2, _, hCd2, _⟩ := RDr.reads
      injection hv2 with hA2 hl2 hc2'
      subst hA2
      subst hc2'
      (try clear hl2)
      obtain ⟨adr, rfl, e2⟩ := int_at hCd2 k hkd
      obtain ⟨a, ha⟩ : ∃ a : Nat, data[k] = (a : Int) := ⟨(data[k]).toNat, by have := HD.out _ (List.getElem_mem hkd); omega⟩
      have hac := HD.out _ (List.getElem_mem hkd)
      rw [ha] at e2 hac
      have hac2 : a < n / 4 := by omega
      have hqi : (q : Int) < 728 := by omega
      obtain ⟨bk, bn, tv, hs, o1, o2, o3, o4, o5, o6, m, hm, hdom, hat⟩ := SR.out.blk
      have hq2 := hat q
      rw [hp] at hq2
      obtain ⟨pv, hpv, hprow⟩ := hq2
      obtain ⟨Ap, cp, rfl, hpc, hCp, _⟩ := hprow.reads
      have hrun := hm.look (q : Int) (Rg.of (by omega) (by omega))
      rw [hpv] at hrun
      simp only [Option.getD_some] at hrun
      have c0 := hs.cell_at 0 _ rfl
      have c5 := hs.cell_at 5 _ rfl
      have hfe : fw S data (k + 1) = { fw S data k with x := pgN (fw S data k).x a (Hand.packed (idV q) p.2) 4, now := fun j => if j = q then some (a, p.2) else (fw S data k).now j } := by
        have e3 : (freshN S.now).getD k 0 = q := by rw [List.getD_eq_getElem?_getD, List.getElem?_eq_getElem hkfn, hq]; rfl
        have e4 : (data.getD k 0).toNat = a := by rw [List.getD_eq_getElem?_getD, List.getElem?_eq_getElem hkd, ha]; rfl
        conv => lhs; unfold fw
        rw [e3, e4, hpd]
      have HFE := Lib.hid hfe
      have HCM := Lib.hid CM
      have ownS : own' s = 3 := o1
      have ob : ∀ b, own1 b = 2 → b < w1.heap.size → ¬ own' b = 1 := fun b h hb h2 => by rw [OW.out b hb, h] at h2; cases h2
      have hadb : adr.block < wr.heap.size ∧ ¬ own' adr.block = 1 := by
        obtain ⟨A', c', hv, _, _, hx⟩ := RDr
        injection hv with hA _ _
        rcases hx with ⟨h1, _⟩ | ⟨b, o, h1, h2, h3, _⟩
        · rw [h1] at hA; cases hA
        · rw [h1] at hA
          injection hA with hA
          subst hA
          refine ⟨h3, ?_⟩
          obtain ⟨A2, c2, hv2', _, _, hx2⟩ := RD1.out
          injection hv2' with hA2 _ _
          rcases hx2 with ⟨h4, _⟩ | ⟨b2, o2', h4, h5, h6, _⟩
          · rw [h4] at hA2; cases hA2
          · rw [h4] at hA2
            injection hA2 with hA2
            injection hA2 with hA2 _ _
            subst hA2
            exact ob b h5 h6
      have HLT := Lib.hid (show ∀ w', Only wr w' (fun b => own' b = 1) → w'.cell? ⟨s, 0, none⟩ = some (.pointer (some ⟨g, 0, none⟩)) ∧ w'.cell? ⟨s, 5, none⟩ = some (.map (some bn)) ∧ w'.cell? (adr.add k) = some (.int .i64 (a : Int)) ∧ (Instr.lookup 74 (.map (some bn)) (.int .i64 (q : Int)) false).run Try.prog w' = .ok (.agg #[.int .i64 (p.1 : Int), .slice Ap p.2.length cp]) w' from fun w' ho => by
        have hs' := hs.keep ho (by rw [ownS]; decide)
        have hm' := hm.step ho (by rw [o3]; decide)
        have hr' := hm'.look (q : Int) (Rg.of (by omega) (by omega))
        rw [hpv] at hr'
        simp only [Option.getD_some] at hr'
        exact ⟨hs'.cell_at 0 _ rfl, hs'.cell_at 5 _ rfl, (ho.cell (p := adr.add k) (by rw [block_of_add]; exact hadb.1) (by rw [block_of_add]; exact hadb.2)).trans e2, hr'⟩)
      have PW := Lib.hid (show ∀ W, Below wr.heap.size wr W → Calls Try.prog 60 #[.pointer (some ⟨g, 0, none⟩), .int .i64 (a : Int), .int .u32 (idV q), .slice Ap p.2.length cp] W fun e w' => e = .returned (.int .i64 0) ∧ IsDisk w' base (fun b => own' b = 1 ∨ wr.heap.size ≤ b) g (pgN (fw S data k).x a (Hand.packed (idV q) p.2) 4) ∧ Only wr w' (fun b => own' b = 1) from fun W hb => by
        have hdk := SR.out.disk.bound.keep (Only.of_below hb (fun _ => False)) (fun _ _ h => h)
        refine (pwrite_ok (Lib.hid hdk) (Lib.hid HCM.out.good) (Nat.le_trans SR.out.hb hb.size) (Lib.hid HCM.out.life) (by rw [HCM.out.pend]; omega) a hac2 (idV q) (idV_range hq7) Ap cp p.2 (Lib.hid (Kd.C_below hCp hb)) hpc (Lib.hid hpb) hpl).mono ?_
        rintro e w' ⟨rfl, h1, h2⟩
        exact ⟨rfl, h1.mono (fun b hb' => by rcases hb' with h | h; exact .inl h.1; exact .inr (Nat.le_trans hb.size h)), (Only.of_below hb (fun b => own' b = 1)).step h2 (fun b hb' h => h.1)⟩)
      have BD := Lib.hid (((Only.refl wr (fun _ => False)).drew).below_all)
      have OD := Lib.hid ((Only.refl wr (fun b => own' b = 1)).drew)
      have hfd0 := field0
      have hfd1 := field1
      have HPV := Lib.hid hpv
      have HM := Lib.hid hm
      have HDM := Lib.hid hdom
      have HAT := Lib.hid hat
      have HSB := Lib.hid hs
      have HPR := Lib.hid hprow
      have O6 := Lib.hid o5
      have O7 := Lib.hid o6
      clear RFr RDr hCf hCd2 hfe CM hq hqf ha hac hp hpd hpb hs hm hdom hat hpv hprow hCp c0 c5 hrun ob hadb o5 o6 e2
      go_wp2_with fail
      go_region_held3 (fun w' => w'.cell? ⟨s, 0, none⟩ = some (.pointer (some ⟨g, 0, none⟩)) ∧ w'.cell? ⟨s, 5, none⟩ = some (.map (some bn)) ∧ w'.cell? (adr.add k) = some (.int .i64 (a : Int)) ∧ (Instr.lookup 74 (.map (some bn)) (.int .i64 (q : Int)) false).run Try.prog w' = .ok (.agg #[.int .i64 (p.1 : Int), .slice Ap p.2.length cp]) w') (exact HLT.out _ (by first | exact OD.out | exact O3.out | exact O4.out)) (first
        | (go_at_call 61; refine (id_c q hq7 _).mono ?_; rintro e w3 ⟨rfl, nd, hw3⟩; have B3 := Lib.hid (show Below wr.heap.size wr w3 by rw [hw3]; exact (((Only.refl wr (fun _ => False)).drew).drewN nd).below_all); have O3 := Lib.hid (Only.of_below B3.out (fun b => own' b = 1)); clear hw3)
        | (go_at_call 60; refine (PW.out _ B3.out).mono ?_; rintro e w4 ⟨rfl, d4, o4⟩; have D4 := Lib.hid d4; have O4 := Lib.hid o4; clear d4 o4)
        | fail)
      all_goals
        obtain ⟨x0, x5, xd, _⟩ := HLT.out w4 O4.out
        obtain ⟨_, _, _, xl⟩ := HLT.out w4.drew O4.out.drew
        have M4 := (HM.out.step O4.out (by rw [o3]; decide)).drew
        obtain ⟨w5, hup, hm5, ho5⟩ := M4.update 728 HDM.out (by decide) (q : Int) (Rg.of (by omega) (by omega)) (.agg #[.int .i64 (a : Int), .slice Ap p.2.length cp])
        have M5 := Lib.hid hm5
        have O5 := Lib.hid ho5
        clear M4 hm5 ho5
        go_wp2_with fail
        go_region
        go_wp2_with fail
        have hzz := O4.out.size
        have O45 : Only wr w5 (fun b => own' b = 1 ∨ own' b = 3) := (O4.out.drew.mono (fun b _ h => .inl h)).step (O5.out) (fun b _ h => .inr (by rw [h]; exact o3))
        have O15 := Lib.hid (ON.out.step O45 (fun b hb h => by rw [OW.out b hb] at h; exact h))
        obtain ⟨own5, h51, h52⟩ := SR.out.page_step D4.out O4.out HSB.out o1 HM.out o3 q a p.2 _ hq7 HPR.out M5.out O5.out
        rw [← HFE.out] at h52
        have hzz := ON.out.size
        have SF := Lib.hid (show ∃ own', (∀ k, k < w1.heap.size → own' k = own1 k) ∧ St w5 own' base g s (fw S data (k + 1)) from ⟨own5, fun b hb => (h51 b (by omega)).trans (OW.out b hb), h52⟩)
        clear O45 h51 h52
        go_roundg (gk - 1)
        case measure => have := KM.out; omega
        case rel => exact ⟨k + 1, (by simp), ⟨by have := KM.out; omega⟩, ⟨SF.out⟩, ⟨O15.out⟩⟩
    · have hki : ¬ (k : Int) < (fr : Int) := by omega
      obtain rfl : k = fr := by omega
      have CMA := Lib.hid (fw_ok HO.out HD.out k (by have := HDL.out; omega) (by have := HFR.out; omega))
      obtain ⟨wA, hwA⟩ : ∃ wA, wA = wr := ⟨_, rfl⟩
      subst hwA
      obtain ⟨T, hTe⟩ : ∃ T, T = fw S data k := ⟨_, rfl⟩
      rw [← hTe] at SR CMA
      have HTE := Lib.hid hTe
      have RBA := Lib.hid (RB1.out.keep ON.out n12)
      have RTA := Lib.hid (RT1.out.keep ON.out n12)
      have hrt : ∀ b, own1 b = 2 → b < w1.heap.size → ¬ own' b = 1 := fun b h hb h2 => by rw [OW.out b hb, h] at h2; cases h2
      have hszA : w1.heap.size ≤ wA.heap.size := ON.out.size
      have RBA2 := Lib.hid (show Row wA (fun b => own' b = 2) .u8 (.slice Ab bs.length cb) bs from (RB1.out.mono (ok' := fun b => own1 b = 2 ∧ b < w1.heap.size) (fun b hb h => ⟨h, hb⟩)).keep ON.out (fun b hb => n12 b hb.1) |>.mono (fun b _ hb => (OW.out b hb.2).trans hb.1))
      have RTA2 := Lib.hid (show Row wA (fun b => own' b = 2) .i64 (.slice At tabs.length ct) tabs from (RT1.out.mono (ok' := fun b => own1 b = 2 ∧ b < w1.heap.size) (fun b hb h => ⟨h, hb⟩)).keep ON.out (fun b hb => n12 b hb.1) |>.mono (fun b _ hb => (OW.out b hb.2).trans hb.1))
      clear RFr RDr n12 hTe hrt RB1 RF1 RD1 RT1 S1 RBA RTA
      have htli : (tabs.length : Int) ≤ 1000 := by omega
      go_wp2_with fail
      go_loopg [67] tabs.length (fun mm iv wr => ∃ j : Nat, iv = .int .i64 j ∧ Aside1 (j + mm = tabs.length) ∧ Aside1 (∃ own'', (∀ b, b < wA.heap.size → own'' b = own' b) ∧ St wr own'' base g s (tw T bs tabs j)) ∧ Aside1 (Only wA wr (fun b => own' b = 1)))
      case atStart => exact ⟨0, rfl, ⟨by omega⟩, ⟨own', fun _ _ => rfl, SR.out⟩, ⟨Only.refl _ _⟩⟩
      case round =>
        obtain ⟨j, rfl, ⟨hjm⟩, ⟨own'', how'', hSt⟩, ⟨hOn⟩⟩ := hrel
        have JM := Lib.hid hjm
        have ST := Lib.hid hSt
        have OW2 := Lib.hid how''
        have ON2 := Lib.hid hOn
        have hj0 : (j : Int) ≤ 1000 := by omega
        have hjt : j ≤ tabs.length := by omega
        clear hjm hSt how'' hOn
        have n21 : ∀ b, own' b = 2 → ¬ own' b = 1 := fun b h h2 => by rw [h] at h2; cases h2
        have RBr := RBA2.out.keep ON2.out n21
        have RTr := RTA2.out.keep ON2.out n21
        have CT := tw_ok CMA.out HBB.out HT.out j hjt
        obtain ⟨bk, bn, tv, hs, o1, o2, o3, o4, _, _, _⟩ := ST.out.blk
        have c0 := hs.cell_at 0 _ rfl
        by_cases hj : j < tabs.length
        · have hji : (j : Int) < (tabs.length : Int) := by omega
          obtain ⟨At', ct', hv1, _, hCt, _⟩ := RTr.reads
          injection hv1 with hA1 hl1 hc1'
          subst hA1
          subst hc1'
          (try clear hl1)
          obtain ⟨atr, rfl, e1⟩ := int_at hCt j hj
          obtain ⟨t, hte⟩ : ∃ t : Nat, tabs[j] = (t : Int) := ⟨(tabs[j]).toNat, by have := HT.out _ (List.getElem_mem hj); omega⟩
          have htc2 := HT.out _ (List.getElem_mem hj)
          rw [hte] at e1 htc2
          have htn : t < n / 4 := by omega
          obtain ⟨Lx, hLx⟩ : ∃ Lx, Lx = leB (tabs.getD (j + 1) 0) 4 := ⟨_, rfl⟩
          have hLl : Lx.length = 4 := by rw [hLx, leB_len]
          obtain ⟨lo, hlo⟩ : ∃ lo : Nat, lo = min bs.length (j * 112) := ⟨_, rfl⟩
          obtain ⟨hi, hhi⟩ : ∃ hi : Nat, hi = min bs.length ((j + 1) * 112) := ⟨_, rfl⟩
          obtain ⟨pt, hpt⟩ : ∃ pt, pt = (bs.take hi).drop lo := ⟨_, rfl⟩
          have hTP : Lx ++ pt = tabPart bs tabs j := by
            unfold tabPart
            rw [hLx, hpt, hhi, hlo, List.take_eq_take_iff.2 (show min (min bs.length ((j + 1) * 112)) bs.length = min ((j + 1) * 112) bs.length by omega)]
            congr 1
            by_cases hc : j * 112 ≤ bs.length
            · rw [Nat.min_eq_right hc]
            · rw [Nat.min_eq_left (by omega), List.drop_eq_nil_of_le (by rw [List.length_take]; omega), List.drop_eq_nil_of_le (by rw [List.length_take]; omega)]
          have HTP := Lib.hid hTP
          obtain ⟨m1, hm1⟩ : ∃ m1 : Nat, m1 = j * 112 := ⟨_, rfl⟩
          obtain ⟨m2, hm2⟩ : ∃ m2 : Nat, m2 = (j + 1) * 112 := ⟨_, rfl⟩
          have hw1 : IntKind.i64.wrap ((j : Int) * 112) = (m1 : Int) := by rw [wrap64_id (by omega) (by omega)]; omega
          have hw2 : IntKind.i64.wrap (IntKind.i64.wrap ((j : Int) + 1) * 112) = (m2 : Int) := by rw [wrap64_id (x := (j : Int) + 1) (by omega) (by omega), wrap64_id (by omega) (by omega)]; omega
          have hmi1 : Builtin.min2 (.int .i64 (bs.length : Int)) (.int .i64 (m1 : Int)) = pure (.int .i64 (lo : Int)) := by
            rw [Go.Proofs.YtochnokfcfmgnaaW.PrintMore.min2_int]
            congr 2
            split <;> omega
          have hmi2 : Builtin.min2 (.int .i64 (bs.length : Int)) (.int .i64 (m2 : Int)) = pure (.int .i64 (hi : Int)) := by
            rw [Go.Proofs.YtochnokfcfmgnaaW.PrintMore.min2_int]
            congr 2
            split <;> omega
          have hlh : lo ≤ hi := by omega
          have hhl : hi ≤ bs.length := by omega
          obtain ⟨Ab', cb', hvb, hcb, hCb, hAb⟩ := RBr.reads
          injection hvb with hA3 hl3 hc3'
          subst hA3
          subst hc3'
          (try clear hl3)
          have hq3 : (hi : Int) ≤ (cb : Int) := by omega
          have hq4 : (lo : Int) ≤ (hi : Int) := by omega
          have hq5 : max (hi : Int) 0 = (hi : Int) := by omega
          have hsl : (Ab = none ∧ cb = 0 ∧ lo = 0 ∧ hi = 0) ∨ (∃ b0 o0, Ab = some ⟨b0, o0, none⟩ ∧ ¬ cb = lo) ∨ (∃ b0 o0, Ab = some ⟨b0, o0, none⟩ ∧ cb = lo ∧ hi = lo) := by
            rcases hAb with ⟨h1, h2⟩ | ⟨b, o, h1⟩
            · exact .inl ⟨h1, h2, by omega, by omega⟩
            · by_cases h3 : cb = lo
              · exact .inr (.inr ⟨b, o, h1, h3, by omega⟩)
              · exact .inr (.inl ⟨b, o, h1, h3⟩)
          have hnext : (∃ nx : Nat, j + 1 < tabs.length ∧ wr.cell? ⟨atr.block, atr.off + (j + 1), none⟩ = some (.int .i64 (nx : Int)) ∧ PShadowCrashes.shadow_lay.f 20 [] (IntKind.u64.wrap (nx : Int)) 4 = some Lx) ∨ (¬ j + 1 < tabs.length ∧ PShadowCrashes.shadow_lay.f 20 [] (IntKind.u64.wrap 0) 4 = some Lx) := by
            by_cases hn1 : j + 1 < tabs.length
            · have hx1 := HT.out _ (List.getElem_mem hn1)
              obtain ⟨nx, hnx⟩ : ∃ nx : Nat, tabs[j + 1] = (nx : Int) := ⟨(tabs[j + 1]).toNat, by omega⟩
              refine .inl ⟨nx, hn1, by rw [← hnx]; exact RTr.cell_ (j + 1) hn1, ?_⟩
              rw [hLx, List.getD_eq_getElem?_getD, List.getElem?_eq_getElem hn1, Option.getD_some, hnx, wrap_id (by omega) (by omega)]
              exact lay_f 4 (by omega) [] (nx : Int) (by simp)
            · refine .inr ⟨hn1, ?_⟩
              rw [hLx, List.getD_eq_getElem?_getD, List.getElem?_eq_none (by omega), Option.getD_none, wrap_id (by omega) (by omega)]
              exact lay_f 4 (by omega) [] 0 (by simp)
          have HPT := Lib.hid hpt
          have HLX := Lib.hid hLx
          have HLL := Lib.hid hLl
          have HLH := Lib.hid hlh
          have HHL := Lib.hid hhl
          have RBH := Lib.hid RBr
          clear hLx hLl hlo hhi hpt hTP hm1 hm2 hlh hhl hcb hCb hAb RBr RTr
          have info5 : (Try.prog.info? 5).map (fun i => (i.zero, i.size, i.bytes)) = some (some (.int .u8 0), 1, 1) := by kernel_rfl
          obtain ⟨tp, htp⟩ : ∃ tp, tp = tabPart bs tabs j := ⟨_, rfl⟩
          have HTPE := Lib.hid htp
          rw [← htp] at HTP
          have htpk := tabPart_ok bs tabs HBB.out j
          rw [← htp] at htpk
          have HTPK := Lib.hid htpk
          have hfe : tw T bs tabs (j + 1) = { tw T bs tabs j with x := pgN (tw T bs tabs j).x t (Hand.packed 2 tp) 4 } := by
            have e4 : (tabs.getD j 0).toNat = t := by rw [List.getD_eq_getElem?_getD, List.getElem?_eq_getElem hj, hte]; rfl
            conv => lhs; unfold tw
            rw [e4, ← htp]
          have HFE := Lib.hid hfe
          have PW := Lib.hid (show ∀ W A c, Below wr.heap.size wr W → (Kd.int .u8).C W A tp.length tp → tp.length ≤ c → Calls Try.prog 60 #[.pointer (some ⟨g, 0, none⟩), .int .i64 (t : Int), .int .u32 2, .slice A tp.length c] W fun e w' => e = .returned (.int .i64 0) ∧ IsDisk w' base (fun b => own'' b = 1 ∨ wr.heap.size ≤ b) g (pgN (tw T bs tabs j).x t (Hand.packed 2 tp) 4) ∧ Only wr w' (fun b => own'' b = 1) from fun W A c hb hC hc => by
            have hdk := ST.out.disk.bound.keep (Only.of_below hb (fun _ => False)) (fun _ _ h => h)
            refine (pwrite_ok (Lib.hid hdk) (Lib.hid CT.good) (Nat.le_trans ST.out.hb hb.size) (Lib.hid CT.life) (by rw [CT.pend]; omega) t htn 2 (by omega) A c tp (Lib.hid hC) hc (Lib.hid HTPK.out.2) HTPK.out.1).mono ?_
            rintro e w' ⟨rfl, h1, h2⟩
            exact ⟨rfl, h1.mono (fun b hb' => by rcases hb' with h | h; exact .inl h.1; exact .inr (Nat.le_trans hb.size h)), (Only.of_below hb (fun b => own'' b = 1)).step h2 (fun b hb' h => h.1)⟩)
          have HSB := Lib.hid hs
          have LLH := Lib.hid (show (Lx.length + (hi - lo)) * 1 ≤ 140737488355328 by have := HLL.out; have := HHL.out; omega)
          clear htp htpk hfe CT hte
          rcases hnext with ⟨nx, hnx, e3, LX⟩ | ⟨hnx, LX⟩
          · have hnxi : (j : Int) + 1 < (tabs.length : Int) := by omega
            have LXH := Lib.hid LX
            clear LX hnx
            rcases hsl with ⟨rfl, rfl, rfl, rfl⟩ | ⟨b0, o0, rfl, hq6⟩ | ⟨b0, o0, rfl, rfl, rfl⟩
            · have CP := Lib.hid (show ∀ W, Below wr.heap.size wr W → (Kd.int .u8).C W none 0 pt from fun W _ => by rw [HPT.out]; exact ⟨by simp, by simp, fun h => absurd h (by omega)⟩)
              go_wp2_with fail
              go_region_law (first
                | (go_simp; go_at_call 62; refine (lay_c (w0 := wr) _ 4 _ (((Only.refl wr (fun _ => False)).drew).below_all) (Kd.R_nil _ _ _ _ _) LXH.out).mono ?_; rintro e w2 ⟨A1, k1, rfl, r1, b1⟩; have R1 := Lib.hid r1; have B1 := Lib.hid b1; clear r1 b1)
                | (refine Kd.R_append_rows_step (Kd.int .u8) (w0 := wr) wr.heap.size rfl (.tmp 84) (.tmp 97) 23 5 (.int .u8 0) 1 rfl Try.underlying23 info5 rfl (by decide) (by decide) (.slice A1 Lx.length k1) Lx pt _ _ _ (fun _ => True) (fun _ => False) rfl rfl R1.out (CP.out _ B1.out) (fun _ _ h => h) (fun _ h => h.elim) (fun _ _ => trivial) B1.out B1.out.size LLH.out ?_; intro v3 w3 hR3 hb3 hg3 hat3; rw [HTP.out] at hR3; obtain ⟨A3, c3, ev3⟩ := Kd.R_slice hR3; subst ev3; have R3 := Lib.hid hR3; have B3 := Lib.hid hb3; clear hR3 hb3 hg3 hat3)
                | fail)
              all_goals
                have c0' := (HSB.out.below B3.out HSB.out.lt).cell_at 0 _ rfl
                have PWT := Lib.hid (PW.out w3 A3 c3 B3.out (Kd.R_reads' R3.out).2.2 (Kd.R_reads' R3.out).2.1)
                go_wp2_with (first
                  | (go_at_call 60; refine PWT.out.mono ?_; rintro e w4 ⟨rfl, d4, o4⟩; have D4 := Lib.hid d4; have O4 := Lib.hid o4; clear d4 o4)
                  | fail)
                have h52 := ST.out.disk_step D4.out O4.out
                rw [← HFE.out] at h52
                have SF := Lib.hid h52
                clear h52
                go_roundg (gk - 1)
                case measure => have := JM.out; omega
                case rel =>
                  have hzz := ON2.out.size
                  exact ⟨j + 1, (by simp), ⟨by have := JM.out; omega⟩, ⟨_, fun b hb => (upd_lt (by omega)).trans (OW2.out b hb), SF.out⟩, ⟨ON2.out.step O4.out (fun b hb h => by rw [OW2.out b hb] at h; exact h)⟩⟩
            · have CP := Lib.hid (show ∀ W, Below wr.heap.size wr W → (Kd.int .u8).C W (some ⟨b0, o0 + lo, none⟩) (hi - lo) pt from fun W hb => by
                have h := RBH.out.part HLH.out HHL.out HPT.out
                have h2 := Kd.C_below h.2 hb
                rw [h.1] at h2
                exact h2)
              go_wp2_with fail
              go_region_law (first
                | (go_simp; go_at_call 62; refine (lay_c (w0 := wr) _ 4 _ (((Only.refl wr (fun _ => False)).drew).below_all) (Kd.R_nil _ _ _ _ _) LXH.out).mono ?_; rintro e w2 ⟨A1, k1, rfl, r1, b1⟩; have R1 := Lib.hid r1; have B1 := Lib.hid b1; clear r1 b1)
                | (refine Kd.R_append_rows_step (Kd.int .u8) (w0 := wr) wr.heap.size rfl (.tmp 84) (.tmp 97) 23 5 (.int .u8 0) 1 rfl Try.underlying23 info5 rfl (by decide) (by decide) (.slice A1 Lx.length k1) Lx pt _ _ _ (fun _ => True) (fun _ => False) rfl rfl R1.out (CP.out _ B1.out) (fun _ _ h => h) (fun _ h => h.elim) (fun _ _ => trivial) B1.out B1.out.size LLH.out ?_; intro v3 w3 hR3 hb3 hg3 hat3; rw [HTP.out] at hR3; obtain ⟨A3, c3, ev3⟩ := Kd.R_slice hR3; subst ev3; have R3 := Lib.hid hR3; have B3 := Lib.hid hb3; clear hR3 hb3 hg3 hat3)
                | fail)
              all_goals
                have c0' := (HSB.out.below B3.out HSB.out.lt).cell_at 0 _ rfl
                have PWT := Lib.hid (PW.out w3 A3 c3 B3.out (Kd.R_reads' R3.out).2.2 (Kd.R_reads' R3.out).2.1)
                go_wp2_with (first
                  | (go_at_call 60; refine PWT.out.mono ?_; rintro e w4 ⟨rfl, d4, o4⟩; have D4 := Lib.hid d4; have O4 := Lib.hid o4; clear d4 o4)
                  | fail)
                have h52 := ST.out.disk_step D4.out O4.out
                rw [← HFE.out] at h52
                have SF := Lib.hid h52
                clear h52
                go_roundg (gk - 1)
                case measure => have := JM.out; omega
                case rel =>
                  have hzz := ON2.out.size
                  exact ⟨j + 1, (by simp), ⟨by have := JM.out; omega⟩, ⟨_, fun b hb => (upd_lt (by omega)).trans (OW2.out b hb), SF.out⟩, ⟨ON2.out.step O4.out (fun b hb h => by rw [OW2.out b hb] at h; exact h)⟩⟩
            · have CP := Lib.hid (show ∀ W, Below wr.heap.size wr W → (Kd.int .u8).C W (some ⟨b0, o0, none⟩) 0 pt from fun W hb => by
                have h := RBH.out.part HLH.out HHL.out HPT.out
                have h3 : pt = [] := List.length_eq_zero_iff.1 (by omega)
                rw [h3]
                exact ⟨rfl, by omega, fun h => absurd h (by omega)⟩)
              have LLH := Lib.hid (show (Lx.length + 0) * 1 ≤ 140737488355328 by have := HLL.out; omega)
              go_wp2_with fail
              go_region_law (first
                | (go_simp; go_at_call 62; refine (lay_c (w0 := wr) _ 4 _ (((Only.refl wr (fun _ => False)).drew).below_all) (Kd.R_nil _ _ _ _ _) LXH.out).mono ?_; rintro e w2 ⟨A1, k1, rfl, r1, b1⟩; have R1 := Lib.hid r1; have B1 := Lib.hid b1; clear r1 b1)
                | (refine Kd.R_append_rows_step (Kd.int .u8) (w0 := wr) wr.heap.size rfl (.tmp 84) (.tmp 97) 23 5 (.int .u8 0) 1 rfl Try.underlying23 info5 rfl (by decide) (by decide) (.slice A1 Lx.length k1) Lx pt _ _ _ (fun _ => True) (fun _ => False) rfl rfl R1.out (CP.out _ B1.out) (fun _ _ h => h) (fun _ h => h.elim) (fun _ _ => trivial) B1.out B1.out.size LLH.out ?_; intro v3 w3 hR3 hb3 hg3 hat3; rw [HTP.out] at hR3; obtain ⟨A3, c3, ev3⟩ := Kd.R_slice hR3; subst ev3; have R3 := Lib.hid hR3; have B3 := Lib.hid hb3; clear hR3 hb3 hg3 hat3)
                | fail)
              all_goals
                have c0' := (HSB.out.below B3.out HSB.out.lt).cell_at 0 _ rfl
                have PWT := Lib.hid (PW.out w3 A3 c3 B3.out (Kd.R_reads' R3.out).2.2 (Kd.R_reads' R3.out).2.1)
                go_wp2_with (first
                  | (go_at_call 60; refine PWT.out.mono ?_; rintro e w4 ⟨rfl, d4, o4⟩; have D4 := Lib.hid d4; have O4 := Lib.hid o4; clear d4 o4)
                  | fail)
                have h52 := ST.out.disk_step D4.out O4.out
                rw [← HFE.out] at h52
                have SF := Lib.hid h52
                clear h52
                go_roundg (gk - 1)
                case measure => have := JM.out; omega
                case rel =>
                  have hzz := ON2.out.size
                  exact ⟨j + 1, (by simp), ⟨by have := JM.out; omega⟩, ⟨_, fun b hb => (upd_lt (by omega)).trans (OW2.out b hb), SF.out⟩, ⟨ON2.out.step O4.out (fun b hb h => by rw [OW2.out b hb] at h; exact h)⟩⟩
          · have hnxi : ¬ ((j : Int) + 1 < (tabs.length : Int)) := by omega
            have LXH := Lib.hid LX
            clear LX hnx
            rcases hsl with ⟨rfl, rfl, rfl, rfl⟩ | ⟨b0, o0, rfl, hq6⟩ | ⟨b0, o0, rfl, rfl, rfl⟩
            · have CP := Lib.hid (show ∀ W, Below wr.heap.size wr W → (Kd.int .u8).C W none 0 pt from fun W _ => by rw [HPT.out]; exact ⟨by simp, by simp, fun h => absurd h (by omega)⟩)
              go_wp2_with fail
              go_region_law (first
                | (go_simp; go_at_call 62; refine (lay_c (w0 := wr) _ 4 _ (((Only.refl wr (fun _ => False)).drew).below_all) (Kd.R_nil _ _ _ _ _) LXH.out).mono ?_; rintro e w2 ⟨A1, k1, rfl, r1, b1⟩; have R1 := Lib.hid r1; have B1 := Lib.hid b1; clear r1 b1)
                | (refine Kd.R_append_rows_step (Kd.int .u8) (w0 := wr) wr.heap.size rfl (.tmp 84) (.tmp 97) 23 5 (.int .u8 0) 1 rfl Try.underlying23 info5 rfl (by decide) (by decide) (.slice A1 Lx.length k1) Lx pt _ _ _ (fun _ => True) (fun _ => False) rfl rfl R1.out (CP.out _ B1.out) (fun _ _ h => h) (fun _ h => h.elim) (fun _ _ => trivial) B1.out B1.out.size LLH.out ?_; intro v3 w3 hR3 hb3 hg3 hat3; rw [HTP.out] at hR3; obtain ⟨A3, c3, ev3⟩ := Kd.R_slice hR3; subst ev3; have R3 := Lib.hid hR3; have B3 := Lib.hid hb3; clear hR3 hb3 hg3 hat3)
                | fail)
              all_goals
                have c0' := (HSB.out.below B3.out HSB.out.lt).cell_at 0 _ rfl
                have PWT := Lib.hid (PW.out w3 A3 c3 B3.out (Kd.R_reads' R3.out).2.2 (Kd.R_reads' R3.out).2.1)
                go_wp2_with (first
                  | (go_at_call 60; refine PWT.out.mono ?_; rintro e w4 ⟨rfl, d4, o4⟩; have D4 := Lib.hid d4; have O4 := Lib.hid o4; clear d4 o4)
                  | fail)
                have h52 := ST.out.disk_step D4.out O4.out
                rw [← HFE.out] at h52
                have SF := Lib.hid h52
                clear h52
                go_roundg (gk - 1)
                case measure => have := JM.out; omega
                case rel =>
                  have hzz := ON2.out.size
                  exact ⟨j + 1, (by simp), ⟨by have := JM.out; omega⟩, ⟨_, fun b hb => (upd_lt (by omega)).trans (OW2.out b hb), SF.out⟩, ⟨ON2.out.step O4.out (fun b hb h => by rw [OW2.out b hb] at h; exact h)⟩⟩
            · have CP := Lib.hid (show ∀ W, Below wr.heap.size wr W → (Kd.int .u8).C W (some ⟨b0, o0 + lo, none⟩) (hi - lo) pt from fun W hb => by
                have h := RBH.out.part HLH.out HHL.out HPT.out
                have h2 := Kd.C_below h.2 hb
                rw [h.1] at h2
                exact h2)
              go_wp2_with fail
              go_region_law (first
                | (go_simp; go_at_call 62; refine (lay_c (w0 := wr) _ 4 _ (((Only.refl wr (fun _ => False)).drew).below_all) (Kd.R_nil _ _ _ _ _) LXH.out).mono ?_; rintro e w2 ⟨A1, k1, rfl, r1, b1⟩; have R1 := Lib.hid r1; have B1 := Lib.hid b1; clear r1 b1)
                | (refine Kd.R_append_rows_step (Kd.int .u8) (w0 := wr) wr.heap.size rfl (.tmp 84) (.tmp 97) 23 5 (.int .u8 0) 1 rfl Try.underlying23 info5 rfl (by decide) (by decide) (.slice A1 Lx.length k1) Lx pt _ _ _ (fun _ => True) (fun _ => False) rfl rfl R1.out (CP.out _ B1.out) (fun _ _ h => h) (fun _ h => h.elim) (fun _ _ => trivial) B1.out B1.out.size LLH.out ?_; intro v3 w3 hR3 hb3 hg3 hat3; rw [HTP.out] at hR3; obtain ⟨A3, c3, ev3⟩ := Kd.R_slice hR3; subst ev3; have R3 := Lib.hid hR3; have B3 := Lib.hid hb3; clear hR3 hb3 hg3 hat3)
                | fail)
              all_goals
                have c0' := (HSB.out.below B3.out HSB.out.lt).cell_at 0 _ rfl
                have PWT := Lib.hid (PW.out w3 A3 c3 B3.out (Kd.R_reads' R3.out).2.2 (Kd.R_reads' R3.out).2.1)
                go_wp2_with (first
                  | (go_at_call 60; refine PWT.out.mono ?_; rintro e w4 ⟨rfl, d4, o4⟩; have D4 := Lib.hid d4; have O4 := Lib.hid o4; clear d4 o4)
                  | fail)
                have h52 := ST.out.disk_step D4.out O4.out
                rw [← HFE.out] at h52
                have SF := Lib.hid h52
                clear h52
                go_roundg (gk - 1)
                case measure => have := JM.out; omega
                case rel =>
                  have hzz := ON2.out.size
                  exact ⟨j + 1, (by simp), ⟨by have := JM.out; omega⟩, ⟨_, fun b hb => (upd_lt (by omega)).trans (OW2.out b hb), SF.out⟩, ⟨ON2.out.step O4.out (fun b hb h => by rw [OW2.out b hb] at h; exact h)⟩⟩
            · have CP := Lib.hid (show ∀ W, Below wr.heap.size wr W → (Kd.int .u8).C W (some ⟨b0, o0, none⟩) 0 pt from fun W hb => by
                have h := RBH.out.part HLH.out HHL.out HPT.out
                have h3 : pt = [] := List.length_eq_zero_iff.1 (by omega)
                rw [h3]
                exact ⟨rfl, by omega, fun h => absurd h (by omega)⟩)
              have LLH := Lib.hid (show (Lx.length + 0) * 1 ≤ 140737488355328 by have := HLL.out; omega)
              go_wp2_with fail
              go_region_law (first
                | (go_simp; go_at_call 62; refine (lay_c (w0 := wr) _ 4 _ (((Only.refl wr (fun _ => False)).drew).below_all) (Kd.R_nil _ _ _ _ _) LXH.out).mono ?_; rintro e w2 ⟨A1, k1, rfl, r1, b1⟩; have R1 := Lib.hid r1; have B1 := Lib.hid b1; clear r1 b1)
                | (refine Kd.R_append_rows_step (Kd.int .u8) (w0 := wr) wr.heap.size rfl (.tmp 84) (.tmp 97) 23 5 (.int .u8 0) 1 rfl Try.underlying23 info5 rfl (by decide) (by decide) (.slice A1 Lx.length k1) Lx pt _ _ _ (fun _ => True) (fun _ => False) rfl rfl R1.out (CP.out _ B1.out) (fun _ _ h => h) (fun _ h => h.elim) (fun _ _ => trivial) B1.out B1.out.size LLH.out ?_; intro v3 w3 hR3 hb3 hg3 hat3; rw [HTP.out] at hR3; obtain ⟨A3, c3, ev3⟩ := Kd.R_slice hR3; subst ev3; have R3 := Lib.hid hR3; have B3 := Lib.hid hb3; clear hR3 hb3 hg3 hat3)
                | fail)
              all_goals
                have c0' := (HSB.out.below B3.out HSB.out.lt).cell_at 0 _ rfl
                have PWT := Lib.hid (PW.out w3 A3 c3 B3.out (Kd.R_reads' R3.out).2.2 (Kd.R_reads' R3.out).2.1)
                go_wp2_with (first
                  | (go_at_call 60; refine PWT.out.mono ?_; rintro e w4 ⟨rfl, d4, o4⟩; have D4 := Lib.hid d4; have O4 := Lib.hid o4; clear d4 o4)
                  | fail)
                have h52 := ST.out.disk_step D4.out O4.out
                rw [← HFE.out] at h52
                have SF := Lib.hid h52
                clear h52
                go_roundg (gk - 1)
                case measure => have := JM.out; omega
                case rel =>
                  have hzz := ON2.out.size
                  exact ⟨j + 1, (by simp), ⟨by have := JM.out; omega⟩, ⟨_, fun b hb => (upd_lt (by omega)).trans (OW2.out b hb), SF.out⟩, ⟨ON2.out.step O4.out (fun b hb h => by rw [OW2.out b hb] at h; exact h)⟩⟩
        · have hji : ¬ ((j : Int) < (tabs.length : Int)) := by omega
          obtain rfl : j = tabs.length := by omega
          obtain ⟨U0, hU0⟩ : ∃ U0, U0 = tw T bs tabs tabs.length := ⟨_, rfl⟩
          rw [← hU0] at ST CT hs
          obtain ⟨ep, hep⟩ : ∃ ep : Int, ep = U0.epoch + 1 := ⟨_, rfl⟩
          have hee : U0.epoch = S.epoch := CT.ep
          have hwe : IntKind.u64.wrap (U0.epoch + 1) = ep := by rw [hep]; exact wrap_id (by have := HO.out.ep; omega) (by rw [hee]; exact HEP.out)
          obtain ⟨rt, p, hrt, hrp, hp1⟩ : ∃ rt p : Nat, U0.root = (rt : Int) ∧ p = 1 - rt ∧ rt ≤ 1 := by
            rcases HO.out.root with h | h
            · exact ⟨0, 1, by rw [CT.root, h]; rfl, rfl, by omega⟩
            · exact ⟨1, 0, by rw [CT.root, h]; rfl, rfl, by omega⟩
          have hwr : IntKind.i64.wrap (1 - (rt : Int)) = (p : Int) := by rw [wrap64_id (by omega) (by omega)]; omega
          have HEE := Lib.hid hee
          have HRT := Lib.hid hrt
          have HRP := Lib.hid hrp
          have HEPE := Lib.hid hep
          rw [hrt] at hs
          clear hee hrt hrp hep
          have HU0 := Lib.hid hU0
          have CTH := Lib.hid CT
          have RTH := Lib.hid (show Row wr (fun b => own'' b = 2) .i64 (.slice At tabs.length ct) tabs from (RTA2.out.mono (ok' := fun b => own' b = 2 ∧ b < wA.heap.size) (fun b hb h => ⟨h, hb⟩)).keep ON2.out (fun b hb => n21 b hb.1) |>.mono (fun b _ hb => (OW2.out b hb.2).trans hb.1))
          have DB := Lib.hid (dk_barrier ST.out.disk CTH.out.good (by have := HO.out.n2; omega) (by rw [CTH.out.life]; decide))
          have HSB := Lib.hid hs
          have O1 := Lib.hid o1
          clear hU0 CT RBr RTr hs o1 n21
          go_wp2_with (first
            | (go_at_call 49; refine DB.out.mono ?_; rintro e w2 ⟨rfl, d2, o2⟩; have D2 := Lib.hid d2; have O2 := Lib.hid o2; have c3 := (HSB.out.keep o2 (by rw [O1.out]; decide)).cell_at 3 _ rfl; have f3 := (HSB.out.keep o2 (by rw [O1.out]; decide)).frozen 3; have f2 := (HSB.out.keep o2 (by rw [O1.out]; decide)).frozen 2;  have c2 := (HSB.out.keep o2 (by rw [O1.out]; decide)).cell_at 2 _ rfl; have c1 := (HSB.out.keep o2 (by rw [O1.out]; decide)).cell_at 1 _ rfl; clear d2 o2)
            | fail)
          have S2 := ST.out.disk_step (D2.out.mono (fun _ h => .inl h)) O2.out
          obtain ⟨bk2, bn2, tv2, hs2, k1, k2, k3, k4, k5, k6, k7⟩ := S2.blk
          have RT2 : Row w2 (fun b => upd own'' wr.heap.size 1 b = 2) .i64 (.slice At tabs.length ct) tabs := (RTH.out.mono (ok' := fun b => own'' b = 2 ∧ b < wr.heap.size) (fun b hb h => ⟨h, hb⟩)).keep O2.out (fun b hb h => by rw [hb.1] at h; cases h) |>.mono (fun b _ hb => by rw [upd_lt hb.2]; exact hb.1)
          have S3 := S2.turn_s hs2 k1 k2 k3 k4 k6 k7 (((Only.refl w2 (fun k => k = s)).setCell (p := ⟨s, 3, none⟩) (fun _ => rfl) (.slice At tabs.length ct)).setCell (p := ⟨s, 2, none⟩) (fun _ => rfl) (.int .u64 ep)) ((hs2.set_ 3 (.slice At tabs.length ct)).set_ 2 (.int .u64 ep)) RT2
          have hb0 : Dk.Good U0.x.barrier n := CTH.out.good.barrier
          have hlf : U0.x.barrier.life = -1 := by show spent U0.x.life = -1; rw [CTH.out.life]; rfl
          have WC := Lib.hid (write_c S3 hb0 hlf (by show ([] : List (Int × List Int)).length ≤ 1000000; simp) (by have := HO.out.n1; omega) (show 0 ≤ ep ∧ ep < 18446744073709551616 from by rw [HEPE.out, HEE.out]; exact ⟨by have := HO.out.ep; omega, HEP.out⟩) (fun t ht => by have h := HT.out t ht; have h2 := HO.out.n2; omega) p (by have := HRP.out; omega))
          have hz2 := O2.out.size
          have HW := Lib.hid (show ∀ k, k < wr.heap.size → upd (upd own'' wr.heap.size 1) w2.heap.size 2 k = own'' k from fun k hk => by rw [upd_lt (by omega), upd_lt hk])
          have HG0 := Lib.hid hb0
          have HLF := Lib.hid hlf
          clear S2 S3 RT2 hs2 k1 k2 k3 k4 k5 k6 k7 hb0 hlf
          obtain ⟨w3, hw3⟩ : ∃ w3, w3 = ((w2.setCell { block := s, off := 3 } (Value.slice At tabs.length ct)).setCell { block := s, off := 2 } (Value.int IntKind.u64 ep)) := ⟨_, rfl⟩
          have O23 := Lib.hid (show Only w2 w3 (fun k => k = s) by rw [hw3]; exact (((Only.refl w2 (fun k => k = s)).setCell (p := ⟨s, 3, none⟩) (fun _ => rfl) (.slice At tabs.length ct)).setCell (p := ⟨s, 2, none⟩) (fun _ => rfl) (.int .u64 ep)))
          rw [← hw3] at WC ⊢
          have HW3 := Lib.hid hw3
          clear hw3 c1 c2 c3 f2 f3
          obtain ⟨own3, hown3⟩ : ∃ own3, own3 = upd (upd own'' wr.heap.size 1) w2.heap.size 2 := ⟨_, rfl⟩
          rw [← hown3] at WC HW
          obtain ⟨U1, hU1⟩ : ∃ U1 : SV, U1 = { U0 with x := U0.x.barrier, tabs := tabs, epoch := ep } := ⟨_, rfl⟩
          have hro : U1.root = (rt : Int) := by rw [hU1]; exact HRT.out
          obtain ⟨U2, hU2⟩ : ∃ U2 : SV, U2 = { U1 with x := U1.x.write (4 * p) (rootB U1) } := ⟨_, rfl⟩
          have hro2 : U2.root = (rt : Int) := by rw [hU2]; exact hro
          have hg2 : Dk.Good U2.x n := by rw [hU2, hU1]; exact HG0.out.write (by have := HRP.out; have := HO.out.n1; omega) (rootB_len _) (rootB_byte _)
          have hl2 : U2.x.life = -1 := by rw [hU2, hU1]; show spent (U0.x.barrier).life = -1; rw [HLF.out]; rfl
          have WC2 : Hid (Calls Try.prog 50 #[.pointer (some ⟨s, 0, none⟩), .int .i64 (p : Int)] w3 fun e w' => e = .returned (.int .i64 0) ∧ (∃ own', (∀ k, k < w3.heap.size → own' k = own3 k) ∧ St w' own' base g s U2) ∧ Only w3 w' (fun k => own3 k = 1)) := Lib.hid (by rw [hU2, hU1]; exact WC.out)
          have HU1 := Lib.hid hU1
          have HU2 := Lib.hid hU2
          have HRO := Lib.hid hro2
          have HG2 := Lib.hid hg2
          have HL2 := Lib.hid hl2
          have HOWN3 := Lib.hid hown3
          clear WC hU1 hU2 hro hg2 hl2 hro2 hown3
          go_wp2_with (first
            | (go_at_call 50; refine WC2.out.mono ?_; rintro e w4 ⟨rfl, ⟨own4, h4, s4⟩, o4⟩; have S4 := Lib.hid s4; have H4 := Lib.hid h4; have O4 := Lib.hid o4; obtain ⟨bk4, bn4, tv4, hf4⟩ := s4.blk; have HF4 : Hid (BlkF w4 own4 g s bk4 bn4 tv4 U2) := Lib.hid hf4; obtain ⟨hs4, k1, _⟩ := hf4; rw [HRO.out] at hs4; have HS4 := Lib.hid hs4; have K1 := Lib.hid k1; have c0' := hs4.cell_at 0 _ rfl; clear h4 o4 hs4 k1)
            | (go_at_call 49; refine (dk_barrier S4.out.disk HG2.out (by have := HO.out.n2; omega) (by rw [HL2.out]; decide)).mono ?_; rintro e w5 ⟨rfl, d5, o5⟩; have D5 := Lib.hid d5; have O5 := Lib.hid o5; have HS5 := Lib.hid (HS4.out.keep o5 (by rw [K1.out]; decide)); have f1 := HS5.out.frozen 1; have f4 := HS5.out.frozen 4; have c1 := HS5.out.cell_at 1 _ rfl; have c4 := HS5.out.cell_at 4 _ rfl; have c5 := HS5.out.cell_at 5 _ rfl; clear d5 o5)
            | fail)
          have F5 := HF4.out.keep O5.out (fun b hb h => by rw [h] at hb; rcases hb with hb | hb <;> cases hb) 1
          have S5 := S4.out.disk_step (D5.out.mono (fun _ h => .inl h)) O5.out
          have hz5 := O5.out.size
          obtain ⟨own5, hown5⟩ : ∃ own5, own5 = upd own4 w4.heap.size 1 := ⟨_, rfl⟩
          rw [← hown5] at F5 S5
          obtain ⟨g1, g2, g3, g4, g5, g6, g7, g8⟩ := F5
          have O56 : Only w5 (w5.setCell ⟨s, 1, none⟩ (.int .i64 (p : Int))) (fun k => k = s) := (Only.refl w5 (fun k => k = s)).setCell (p := ⟨s, 1, none⟩) (fun _ => rfl) (.int .i64 (p : Int))
          have S6 := S5.turn_s g1 g2 g3 g4 g5 g7 g8 O56 (g1.set_ 1 (.int .i64 (p : Int))) g6
          obtain ⟨w6, hw6⟩ : ∃ w6, w6 = w5.setCell ⟨s, 1, none⟩ (.int .i64 (p : Int)) := ⟨_, rfl⟩
          rw [← hw6] at S6 O56 ⊢
          have hs6 : Blk w6 s 76 [.pointer (some ⟨g, 0, none⟩), .int .i64 (p : Int), .int .u64 U2.epoch, tv4, .map (some bk4), .map (some bn4), .bool false] := by rw [hw6]; exact g1.set_ 1 _
          have f4' := hs6.frozen 4
          have nn : bn4 ≠ s := by obtain ⟨m, hm, _⟩ := g8; exact fun e => hm.ne g1 e.symm
          have nk : bk4 ≠ s := by obtain ⟨m, hm, _⟩ := g7; exact fun e => hm.ne g1 e.symm
          have l8 := g8.lt
          have l7 := g7.lt
          have h86 : MapAt w6 (fun k => upd own5 w5.heap.size 2 k = 2) bn4 U2.now := (g8.mono (ok' := fun k => own5 k = 2 ∧ k < w5.heap.size) (fun b hb h => ⟨h, hb⟩)).keep O56 (fun b hb e => by rw [e, g2] at hb; exact absurd hb.1 (by decide)) nn |>.mono (fun b _ hb => by rw [upd_lt hb.2]; exact hb.1)
          have h66 : Row w6 (fun k => upd own5 w5.heap.size 2 k = 2) .i64 tv4 U2.tabs := (g6.mono (ok' := fun k => own5 k = 2 ∧ k < w5.heap.size) (fun b hb h => ⟨h, hb⟩)).keep O56 (fun b hb e => by rw [e, g2] at hb; exact absurd hb.1 (by decide)) |>.mono (fun b _ hb => by rw [upd_lt hb.2]; exact hb.1)
          obtain ⟨m, hm, hdom, hat⟩ := h86
          have z1 : upd own5 w5.heap.size 2 s = 3 := by rw [upd_lt g1.lt]; exact g2
          have z2 : upd own5 w5.heap.size 2 bk4 = 3 := by rw [upd_lt l7]; exact g3
          have z3 : upd own5 w5.heap.size 2 bn4 = 3 := by rw [upd_lt l8]; exact g4
          have CL := Lib.hid (clone_map bn4 m w6 hm)
          have TK := Lib.hid (fun w7 M7 B7 => S6.turn_kept hs6 z1 z2 z3 g5 h66 hm hdom hat (w2 := w7) M7 B7)
          have O45 := Lib.hid (O4.out.step (O5.out) (fun b hb h => by rw [H4.out b hb] at h; exact h))
          have HO56 := Lib.hid O56
          have HOW5 := Lib.hid hown5
          have HS6 := Lib.hid hs6
          clear S5 S6 g1 g2 g3 g4 g5 g6 g7 g8 O56 hw6 hs6 h66 hm hdom hat nn nk l8 l7 z1 z2 z3 hown5 c0' c1 c4 c5 f1 f4 f4'
          go_wp2_with (first
            | (go_at_call 47; refine CL.out.mono ?_; rintro e w7 ⟨rfl, m7, b7⟩; have f4 := (HS6.out.below b7 HS6.out.lt).frozen 4; have c4 := (HS6.out.below b7 HS6.out.lt).cell_at 4 _ rfl; have M7 := Lib.hid m7; have B7 := Lib.hid b7; clear m7 b7)
            | fail)
          go_ret
          have FIN := TK.out w7 M7.out B7.out
          have ep2 : 1 - U0.root = (p : Int) := by have h1 := HRT.out; have h2 := HRP.out; omega
          have hzA := ON.out.size
          have hzr := ON2.out.size
          have hz1 := B1.out.size
          have hz2 := O2.out.size
          have hz3 := O23.out.size
          have hz4 := O4.out.size
          have hz5 := O5.out.size
          have hz6 := HO56.out.size
          have hz7 := B7.out.size
          have q1 : ∀ b, b < w.heap.size → own1 b = own b := fun b hb => by rw [HOW.out, upd_lt hb]
          have q2 : ∀ b, b < w.heap.size → own' b = own b := fun b hb => (OW.out b (by omega)).trans (q1 b hb)
          have q3 : ∀ b, b < w.heap.size → own'' b = own b := fun b hb => (OW2.out b (by omega)).trans (q2 b hb)
          have q4 : ∀ b, b < w.heap.size → own3 b = own b := fun b hb => (HW.out b (by omega)).trans (q3 b hb)
          have q5 : ∀ b, b < w.heap.size → own4 b = own b := fun b hb => (H4.out b (by omega)).trans (q4 b hb)
          have q6 : ∀ b, b < w.heap.size → own5 b = own b := fun b hb => by rw [HOW5.out, upd_lt (by omega)]; exact q5 b hb
          obtain ⟨_, _, _, hs0, os0, _⟩ := H0.out.blk
          have hX : ({ { U2 with x := U2.x.barrier } with root := (p : Int), kept := U2.now } : SV) = cmV S data tabs := by
            unfold cmV
            rw [← HFR.out, ← HTE.out, ← HBS.out, ← HU0.out, HU2.out, HU1.out, HEPE.out]
            dsimp only
            rw [ep2]
            rfl
          refine ⟨rfl, ⟨_, fun b hb => ?_, hX ▸ FIN⟩, ?_⟩
          · rw [upd_lt (by omega), upd_lt (by omega)]; exact q6 b hb
          · have X1 : Only w wA (fun b => own b = 1 ∨ own b = 3) := (Only.of_below B1.out (fun b => own b = 1 ∨ own b = 3)).step ON.out (fun b hb h => by rw [q1 b hb] at h; exact h)
            have X2 := X1.step ON2.out (fun b hb h => by rw [q2 b hb] at h; exact .inl h)
            have X3 := X2.step O2.out (fun b hb h => by rw [q3 b hb] at h; exact .inl h)
            have X4 := X3.step O23.out (fun b hb h => .inr (by rw [h]; exact os0))
            have X5 := X4.step O45.out (fun b hb h => by rw [q4 b hb] at h; exact .inl h)
            have X6 := X5.step HO56.out (fun b hb h => .inr (by rw [h]; exact os0))
            have X7 := X6.step (Only.of_below B7.out (fun _ => False)) (fun b hb h => h.elim)
            exact X7.step (((Only.refl w7 (fun k => k = s)).setCell (p := ⟨s, 4, none⟩) (fun _ => rfl) _)) (fun b hb h => .inr (by rw [h]; exact os0))
end Go.Proofs.Ytochnokfcfmgnaa.St
