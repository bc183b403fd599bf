/- Texts merged: a section each. -/
import Derived.Test.YtochnokfcfmgnaaMI
import Derived.Test.YtochnokfcfmgnaaML
import Derived.Test.YtochnokfcfmgnaaMN
section
/- Seat F: what a crash leaves, plain: the first steps. -/
namespace Go.Proofs.Ytochnokfcfmgnaa.St
open Go Go.RowKit Go.Proofs.Ytochnokfcfmgnaa.Mem Go.Proofs.YtochnokfcfmgnaaW.PrintWords Go.Proofs.Ytochnokfcfmgnaa.Dk Go.Maps Go.ChangeMaps Go.Proofs.Ytochnokfcfmgnaa.Sh Go.Proofs.Ytochnokfcfmgnaa.Sp
set_option linter.unusedVariables false
set_option linter.unusedSimpArgs false
set_option maxRecDepth 100000
set_option maxHeartbeats 1000000
/-- All pending writes lie in some pages: a crash changes no other byte. -/
theorem crash_same {x : DV} {n : Nat} (hg : Dk.Good x n) {T : Nat → Prop} (hp : ∀ p ∈ x.pend, T (p.1.toNat / 4)) (keep : List Bool) (torn cut : Int) (h0 : 0 ≤ cut) (h1 : cut ≤ 32) : ∀ j, SameBut (crashN keep torn cut x.kept x.pend j) x.kept T
  | 0 => SameBut.refl _ _
  | j + 1 => by
    have ih := crash_same hg hp keep torn cut h0 h1 j
    cases hj : x.pend[j]? with
    | none => unfold crashN; rw [hj]; exact ih
    | some p =>
      rw [crashN_succ hj]
      unfold crash1
      split
      · obtain ⟨⟨q1, q2⟩, q3, q4⟩ := hg.pend p (List.mem_of_getElem? hj)
        have hl : (p.2.take (cutAt torn cut j)).length ≤ 32 := by rw [List.length_take]; omega
        have hlen := (crashN_good hg keep torn cut h0 h1 j).1
        have hT := hp p (List.mem_of_getElem? hj)
        have hs := same_splice (l := crashN keep torn cut x.kept x.pend j) (b := p.2.take (cutAt torn cut j)) (o := p.1.toNat * 32) (p := p.1.toNat / 4) (by rw [hlen]; omega) (by omega) (by omega)
        exact (hs.mono (fun q hq => by rw [hq]; exact hT)).trans ih
      · exact ih
/-- A disk on which nothing is pending that is not kept. -/
def Sync (x : DV) : Prop := x.kept = x.seen
/-- A crash ahead of the barrier: what was committed is there. -/
theorem crash_before {n : Nat} {S : SV} (hO : Ok n S) (hL : Lies n S.x S) (hy : Sync S.x) {y : DV} (hg : Dk.Good y n) (hk : y.kept = S.x.kept) {data tabs : List Int} (hP : Plan n S data tabs) (hp : ∀ p ∈ y.pend, ∃ z, (z ∈ data ∨ z ∈ tabs) ∧ p.1.toNat / 4 = z.toNat) (keep : List Bool) (torn cut : Int) (h0 : 0 ≤ cut) (h1 : cut ≤ 32) : Lies n (y.crash keep torn cut) S := by
  have hs := crash_same hg (T := fun q => ∃ z, (z ∈ data ∨ z ∈ tabs) ∧ q = z.toNat) hp keep torn cut h0 h1 y.pend.length
  rw [hk, hy] at hs
  have hs : SameBut (y.crash keep torn cut).seen S.x.seen (fun q => ∃ z, (z ∈ data ∨ z ∈ tabs) ∧ q = z.toNat) := by
    have e : (y.crash keep torn cut).seen = crashN keep torn cut y.kept y.pend y.pend.length := rfl
    rw [e, hk, hy]; exact hs
  have h2 : ∀ z, (z ∈ data ∨ z ∈ tabs) → 2 ≤ z := fun z hz => by
    rcases hz with hz | hz
    · exact (hP.hd z hz).1
    · exact (hP.ht z hz).1
  refine hL.same hO hs ?_ ?_ ?_ ?_
  · rintro ⟨z, hz, e⟩; have := h2 z hz; omega
  · rintro ⟨z, hz, e⟩; have := h2 z hz; omega
  · rintro t ht ⟨z, hz, e⟩
    have h3 := h2 z hz
    have h4 := hO.tabs t ht
    exact hP.ft z hz (by rw [show z = t by omega]; exact ht)
  · rintro i p hp ⟨z, hz, e⟩
    have h3 := h2 z hz
    exact hP.fk z hz i p hp (by omega)
theorem pgN_pend (x : DV) (p : Nat) (b : List Int) : ∀ i, i ≤ 4 → (Pg.pgN x p b i).kept = x.kept ∧ ∀ q ∈ (Pg.pgN x p b i).pend, q ∈ x.pend ∨ q.1.toNat / 4 = p
  | 0, _ => ⟨rfl, fun q h => .inl h⟩
  | i + 1, h => by
    obtain ⟨h1, h2⟩ := pgN_pend x p b i (by omega)
    refine ⟨h1, fun q hq => ?_⟩
    have hq : q ∈ (Pg.pgN x p b i).pend ++ [(((4 * p + i : Nat)) , Pg.part b i)].map (fun z : Nat × List Int => ((z.1 : Int), z.2)) := hq
    rcases List.mem_append.1 hq with h3 | h3
    · exact h2 q h3
    · refine .inr ?_
      have h4 : q = (((4 * p + i : Nat) : Int), Pg.part b i) := by simpa using h3
      rw [h4]
      show (((4 * p + i : Nat) : Int)).toNat / 4 = p
      rw [Int.toNat_natCast]; omega
theorem fw_pend (S : SV) (data : List Int) : ∀ k, (fw S data k).x.kept = S.x.kept ∧ ∀ q ∈ (fw S data k).x.pend, q ∈ S.x.pend ∨ ∃ i, i < k ∧ q.1.toNat / 4 = (data.getD i 0).toNat
  | 0 => ⟨rfl, fun q h => .inl h⟩
  | k + 1 => by
    obtain ⟨h1, h2⟩ := fw_pend S data k
    have h3 := pgN_pend (fw S data k).x (data.getD k 0).toNat (Hand.packed (idV ((freshN S.now).getD k 0)) (dataOf (fw S data k).now ((freshN S.now).getD k 0))) 4 (Nat.le_refl _)
    refine ⟨h3.1.trans h1, fun q hq => ?_⟩
    rcases h3.2 q hq with h4 | h4
    · rcases h2 q h4 with h5 | ⟨i, h5, h6⟩
      · exact .inl h5
      · exact .inr ⟨i, by omega, h6⟩
    · exact .inr ⟨k, by omega, h4⟩
theorem tw_pend (T : SV) (b tabs : List Int) : ∀ k, (tw T b tabs k).x.kept = T.x.kept ∧ ∀ q ∈ (tw T b tabs k).x.pend, q ∈ T.x.pend ∨ ∃ i, i < k ∧ q.1.toNat / 4 = (tabs.getD i 0).toNat
  | 0 => ⟨rfl, fun q h => .inl h⟩
  | k + 1 => by
    obtain ⟨h1, h2⟩ := tw_pend T b tabs k
    have h3 := pgN_pend (tw T b tabs k).x (tabs.getD k 0).toNat (Hand.packed 2 (tabPart b tabs k)) 4 (Nat.le_refl _)
    refine ⟨h3.1.trans h1, fun q hq => ?_⟩
    rcases h3.2 q hq with h4 | h4
    · rcases h2 q h4 with h5 | ⟨i, h5, h6⟩
      · exact .inl h5
      · exact .inr ⟨i, by omega, h6⟩
    · exact .inr ⟨k, by omega, h4⟩
/-- A sector of which the first bytes are another's. -/
theorem torn_sec {l b : List Int} {m k : Nat} (hl : m * 32 + 32 ≤ l.length) (hb : b.length = 32) (hk : k ≤ 32) : sec (splice l (m * 32) (b.take k)) (m : Int) = b.take k ++ (sec l (m : Int)).drop k := by
  unfold sec splice
  rw [Int.toNat_natCast, List.drop_append_of_le_length (by simp; omega), List.drop_of_length_le (by simp; omega), List.nil_append, List.take_append, List.take_of_length_le (by simp; omega)]
  congr 1
  rw [List.length_take, Nat.min_eq_left (by omega), List.drop_take, List.drop_drop]
theorem numV_inj : ∀ (a b : List Int), a.length = b.length → (∀ y ∈ a, 0 ≤ y ∧ y < 256) → (∀ y ∈ b, 0 ≤ y ∧ y < 256) → numV a = numV b → a = b
  | [], [], _, _, _, _ => rfl
  | [], _ :: _, h, _, _, _ => by cases h
  | _ :: _, [], h, _, _, _ => by cases h
  | x :: a, y :: b, h, ha, hb, he => by
    have h1 := ha x (by simp)
    have h2 := hb y (by simp)
    unfold numV at he
    have e1 : x = y := by omega
    have e2 := numV_inj a b (by simpa using h) (fun z hz => ha z (by simp [hz])) (fun z hz => hb z (by simp [hz])) (by omega)
    rw [e1, e2]
/-- A root that is torn: it is the new one whole, or does not count, or is older. -/
theorem torn_root {rN rO : List Int} {k : Nat} {E : Int} (hN : rN.length = 32) (hO : rO.length = 32) (bN : ∀ y ∈ rN, 0 ≤ y ∧ y < 256) (bO : ∀ y ∈ rO, 0 ≤ y ∧ y < 256) (hk : k ≤ 32) (he : fldV rN 0 8 = fldV rN 24 8) (ho : fldV rO 24 8 < E) :
    rN.take k ++ rO.drop k = rN ∨ (rootOk (rN.take k ++ rO.drop k) → fldV (rN.take k ++ rO.drop k) 0 8 < E) := by
  by_cases h24 : k ≤ 24
  · refine .inr fun hr => ?_
    have e : fldV (rN.take k ++ rO.drop k) 24 8 = fldV rO 24 8 := by
      unfold fldV
      rw [List.drop_append, List.drop_of_length_le (by rw [List.length_take]; omega), List.nil_append, List.drop_drop, List.length_take, Nat.min_eq_left (by omega), show k + (24 - k) = 24 by omega]
    rw [hr.1, e]
    exact ho
  · by_cases hr : rootOk (rN.take k ++ rO.drop k)
    · refine .inl ?_
      have e0 : fldV (rN.take k ++ rO.drop k) 0 8 = fldV rN 0 8 := by
        unfold fldV
        rw [List.drop_zero, List.drop_zero, List.take_append_of_le_length (by rw [List.length_take]; omega), List.take_take, Nat.min_eq_left (by omega)]
      have h1 := hr.1
      rw [e0, he] at h1
      have hlen : (rN.take k ++ rO.drop k).length = 32 := by rw [List.length_append, List.length_take, List.length_drop]; omega
      have hb : ∀ y ∈ rN.take k ++ rO.drop k, 0 ≤ y ∧ y < 256 := fun y hy => (List.mem_append.1 hy).elim (fun h => bN y (List.mem_of_mem_take h)) (fun h => bO y (List.mem_of_mem_drop h))
      have h2 := numV_inj _ _ (by rw [List.length_take, List.length_take, List.length_drop, List.length_drop, hN, hlen]) (fun y hy => bN y (List.mem_of_mem_drop (List.mem_of_mem_take hy))) (fun y hy => hb y (List.mem_of_mem_drop (List.mem_of_mem_take hy))) h1
      rw [List.take_of_length_le (by rw [List.length_drop]; omega), List.take_of_length_le (by rw [List.length_drop]; omega)] at h2
      rw [← List.take_append_drop 24 (rN.take k ++ rO.drop k), ← h2, List.take_append_of_le_length (by rw [List.length_take]; omega), List.take_take, Nat.min_eq_left (by omega), List.take_append_drop]
    · exact .inr fun h => absurd h hr
/-- What every grown store's disk is beside. -/
structure Aux (S : SV) : Prop where
  sync : Sync S.x
  o24 : fldV (sec S.x.seen (4 * (1 - S.root))) 24 8 < S.epoch
theorem Aux.cong {S S' : SV} (h : Aux S) (e0 : S'.x = S.x) (e1 : S'.root = S.root) (e2 : S'.epoch = S.epoch) : Aux S' := ⟨by rw [e0]; exact h.sync, by rw [e0, e1, e2]; exact h.o24⟩
theorem cm_aux {n : Nat} {S : SV} (hO : Ok n S) (hI : Inj S) (hL : Lies n S.x S) (hep : S.epoch + 1 < 18446744073709551616) {data tabs : List Int} (hP : Plan n S data tabs) : Aux (cmV S data tabs) := by
  obtain ⟨r1, r2, r3, r4⟩ := root_other hO
  obtain ⟨p1, p2, p3⟩ := pre_root hO hP
  obtain ⟨e1, e2, e3⟩ := cm_epoch (tabs := tabs) ⟨n, hO⟩ ⟨n, hO, hP.hd, hP.hl⟩
  have CM := tw_ok (fw_ok hO hP.hd (freshN S.now).length (by have := hP.hl; omega) (Nat.le_refl _)) (tab_byte S.now data) hP.ht tabs.length (Nat.le_refl _)
  have hs := cm_seen S data tabs
  rw [CM.root] at hs
  have hlen := CM.good.seen
  have hn := hO.n1
  have hx : SameBut (cmV S data tabs).x.seen (tw (fw S data (freshN S.now).length) (tab S.now data).1 tabs tabs.length).x.seen (fun q => q = (1 - S.root).toNat) := by
    rw [hs]
    exact same_splice (by rw [rootB_len, hlen]; omega) (by omega) (by rw [rootB_len]; omega)
  have hsec : sec (cmV S data tabs).x.seen (4 * S.root) = rootB S := by
    rw [hx.sec r3, p1.sec, hL.root]
    rintro ⟨y, hy, he⟩
    rcases hy with hy | hy
    · have := hP.hd y hy; omega
    · have := hP.ht y hy; omega
  have h1 := firstT_range hO
  have h2 := tabs_len hO hI
  have h3 := hO.ep
  refine ⟨rfl, ?_⟩
  rw [e2, show 1 - (1 - S.root) = S.root by omega, hsec, (root_flds S (by omega) (by omega) h1.1 h1.2 (by omega)).2.1, e1]
  omega
theorem com_aux {n : Nat} {S : SV} (hO : Ok n S) (hI : Inj S) (hL : Lies n S.x S) (hA : Aux S) (hep : S.epoch + 1 < 18446744073709551616) : Aux (comV S (n / 4)).1 := by
  unfold comV
  split
  · exact cm_aux hO hI hL hep (plan_ok ‹_›)
  · exact hA
theorem op_aux {n : Nat} {S : SV} (hO : Ok n S) (hI : Inj S) (hL : Lies n S.x S) (hA : Aux S) (hep : S.epoch + 1 < 18446744073709551616) (o : OpV) : Aux (opS (n / 4) S o) := by
  unfold opS
  split
  · obtain ⟨h0, h1, h2, _⟩ := drop_same S o.2.1
    exact hA.cong h0 h1 h2
  · split
    · exact com_aux hO hI hL hA hep
    · split
      · exact hA.cong rfl rfl rfl
      · split
        · exact hA
        · obtain ⟨h0, h1, h2, _⟩ := put_same S o.2.1 o.2.2.2.2.1
          exact hA.cong h0 h1 h2
theorem work_aux {n : Nat} {S : SV} (hO : Ok n S) (hI : Inj S) (hL : Lies n S.x S) (hA : Aux S) {script : List OpV} (hs : ∀ o ∈ script, OpOk o) (he : S.epoch + script.length + 1 < 18446744073709551616) : ∀ k, k ≤ script.length → Aux (workV (n / 4) (script.take k) S)
  | 0, _ => hA
  | k + 1, hk => by
    have ih := work_aux hO hI hL hA hs he k (by omega)
    have hp : script[k]? = some script[k] := List.getElem?_eq_getElem (by omega)
    rw [workV_succ hp]
    exact op_aux (work_ok hO hs k).1 (work_inj hO hI hs k) (work_lies hO hI hL hs he k (by omega)) ih (by have := (work_ok hO hs k).2; omega) _
theorem new_aux {n : Nat} (h1 : 12 ≤ n) (h2 : n ≤ 400) : Aux (newV (freshX n)) := by
  have hs : (newV (freshX n)).x.seen = splice (splice (zeros (n * 32)) (4 * 32) (zeros 32)) (0 * 32) (rootB (newV (freshX n))) := rfl
  have l0 : (zeros (n * 32)).length = n * 32 := by simp [zeros]
  have z0 : (zeros 32).length = 32 := by simp [zeros]
  have l1 : (splice (zeros (n * 32)) (4 * 32) (zeros 32)).length = n * 32 := by rw [length_splice _ _ _ (by rw [l0, z0]; omega), l0]
  have hz : sec (newV (freshX n)).x.seen 4 = zeros 32 := by
    have hb := same_splice (l := splice (zeros (n * 32)) (4 * 32) (zeros 32)) (b := rootB (newV (freshX n))) (o := 0 * 32) (p := 0) (by rw [rootB_len, l1]; omega) (by omega) (by rw [rootB_len]; omega)
    rw [hs, hb.sec (s := 4) (by decide)]
    exact sec_splice (m := 4) (by rw [l0]; omega) z0
  refine ⟨rfl, ?_⟩
  show fldV (sec (newV (freshX n)).x.seen 4) 24 8 < 1
  rw [hz]
  decide
theorem grown_aux {n : Nat} (h1 : 12 ≤ n) (h2 : n ≤ 400) {script : List OpV} (hs : ∀ o ∈ script, OpOk o) (hl : script.length ≤ 140737488351232) : Aux (grownV n script) := by
  have h0 := newV_ok (fresh_good n (by omega) (by omega)) rfl h1 h2
  have he : (newV (freshX n)).epoch = 1 := rfl
  have hL := work_lies h0 (new_inj _) (new_lies h1 h2) hs (by rw [he]; omega) script.length (Nat.le_refl _)
  have hw := work_aux h0 (new_inj _) (new_lies h1 h2) (new_aux h1 h2) hs (by rw [he]; omega) script.length (Nat.le_refl _)
  have hI := work_inj h0 (new_inj _) hs script.length
  rw [List.take_length] at hw hI hL
  have hwo := work_ok' h0 hs
  have hc := com_aux hwo.1 hI hL hw (by have := hwo.2; omega)
  unfold grownV endV
  split
  · exact hc
  · exact hc.cong rfl rfl rfl
end Go.Proofs.Ytochnokfcfmgnaa.St
end

section
/- Seat F: what a crash leaves of a commit that died, plain. -/
namespace Go.Proofs.Ytochnokfcfmgnaa.St
open Go Go.RowKit Go.Proofs.Ytochnokfcfmgnaa.Mem Go.Proofs.YtochnokfcfmgnaaW.PrintWords Go.Proofs.Ytochnokfcfmgnaa.Dk Go.Maps Go.ChangeMaps Go.Proofs.Ytochnokfcfmgnaa.Sh Go.Proofs.Ytochnokfcfmgnaa.Sp
set_option linter.unusedVariables false
set_option linter.unusedSimpArgs false
set_option maxRecDepth 100000
set_option maxHeartbeats 1000000
theorem getD_mem {l : List Int} {k : Nat} (h : k < l.length) : l.getD k 0 ∈ l := by rw [getD_lt h]; exact List.getElem_mem h
/-- Whatever kind it is of, it is a good disk. -/
theorem mid_good {n : Nat} {S : SV} (hO : Ok n S) {data tabs : List Int} (hP : Plan n S data tabs) {y : DV} (hm : Mid S data tabs y) : Dk.Good y n := by
  have hl := hP.hl
  have hn := hO.n1
  have CF := fw_ok hO hP.hd (freshN S.now).length (by omega) (Nat.le_refl _)
  have CT := tw_ok CF (tab_byte S.now data) hP.ht tabs.length (Nat.le_refl _)
  rcases hm with ⟨k, i, hk, hi, rfl⟩ | ⟨j, i, hj, hi, rfl⟩ | rfl | rfl | rfl
  · have CM := fw_ok hO hP.hd k (by omega) (by omega)
    have hmem : (freshN S.now).getD k 0 ∈ freshN S.now := by
      rw [List.getD_eq_getElem?_getD, List.getElem?_eq_getElem (by omega)]
      exact List.getElem_mem _
    obtain ⟨q1, p, q2, q3, q4, q5⟩ := CM.at_ hO hmem
    obtain ⟨b1, b2⟩ := packed_ok (d := dataOf (fw S data k).now ((freshN S.now).getD k 0)) (idV_range q1) (by rw [q3]; exact q5) (by rw [q3]; exact q4)
    have hpl := hP.hd _ (getD_mem (show k < data.length by omega))
    exact (Pg.pgN_ok CM.good CM.life (by omega) b1 b2 i (by omega)).good
  · have CM := tw_ok CF (tab_byte S.now data) hP.ht j (by omega)
    obtain ⟨c1, c2⟩ := tabPart_ok (tab S.now data).1 tabs (tab_byte S.now data) j
    obtain ⟨b1, b2⟩ := packed_ok (id := 2) (by omega) c2 c1
    have hpl := hP.ht _ (getD_mem hj)
    exact (Pg.pgN_ok CM.good CM.life (by omega) b1 b2 i (by omega)).good
  · exact CT.good
  · exact CT.good.barrier
  · have h1 := (root_other hO).2.1
    exact CT.good.barrier.write (by omega) (rootB_len _) (rootB_byte _)
theorem plan_tabs {n : Nat} {S : SV} (hO : Ok n S) {data tabs : List Int} (hP : Plan n S data tabs) : tabs.length ≤ 101 := by
  have hn2 := hO.n2
  have h1 := nodup_len (a := tabs.map Int.toNat) (b := List.range 101) (nodup_map_toNat hP.nt (fun x hx => by have := hP.ht x hx; omega)) (fun y hy => by
    obtain ⟨t, ht, rfl⟩ := List.mem_map.1 hy
    have := hP.ht t ht
    rw [List.mem_range]
    omega)
  simpa using h1
theorem mid_crash {n : Nat} {S : SV} (hO : Ok n S) (hI : Inj S) (hL : Lies n S.x S) (hA : Aux S) (hep : S.epoch + 1 < 18446744073709551616) {data tabs : List Int} (hP : Plan n S data tabs) {y : DV} (hm : Mid S data tabs y) (keep : List Bool) (torn cut : Int) (h0 : 0 ≤ cut) (h1 : cut ≤ 32) :
    Lies n (y.crash keep torn cut) S ∨ Lies n (y.crash keep torn cut) (cmV S data tabs) := by
  have hg := mid_good hO hP hm
  have hl := hP.hl
  have hpd := hO.pend
  obtain ⟨k1, k2⟩ := fw_pend S data (freshN S.now).length
  obtain ⟨t1, t2⟩ := tw_pend (fw S data (freshN S.now).length) (tab S.now data).1 tabs tabs.length
  obtain ⟨p1, p2, p3⟩ := pre_root hO hP
  have inD : ∀ k, k ≤ (freshN S.now).length → ∀ q : Int × List Int, (q ∈ S.x.pend ∨ ∃ i, i < k ∧ q.1.toNat / 4 = (data.getD i 0).toNat) → ∃ z, (z ∈ data ∨ z ∈ tabs) ∧ q.1.toNat / 4 = z.toNat := fun k hk q h => by
    rcases h with h | ⟨i, hi, e⟩
    · rw [hpd] at h; cases h
    · exact ⟨_, .inl (getD_mem (by omega)), e⟩
  rcases hm with ⟨k, i, hk, hi, rfl⟩ | ⟨j, i, hj, hi, rfl⟩ | rfl | hy | hy
  · obtain ⟨f1, f2⟩ := fw_pend S data k
    have hp := pgN_pend (fw S data k).x (data.getD k 0).toNat (Hand.packed (idV ((freshN S.now).getD k 0)) (dataOf (fw S data k).now ((freshN S.now).getD k 0))) i (by omega)
    refine .inl (crash_before hO hL hA.sync hg (hp.1.trans f1) hP (fun q hq => ?_) keep torn cut h0 h1)
    rcases hp.2 q hq with h | h
    · exact inD k (by omega) q (f2 q h)
    · exact ⟨_, .inl (getD_mem (by omega)), h⟩
  · obtain ⟨f1, f2⟩ := tw_pend (fw S data (freshN S.now).length) (tab S.now data).1 tabs j
    have hp := pgN_pend (tw (fw S data (freshN S.now).length) (tab S.now data).1 tabs j).x (tabs.getD j 0).toNat (Hand.packed 2 (tabPart (tab S.now data).1 tabs j)) i (by omega)
    refine .inl (crash_before hO hL hA.sync hg (hp.1.trans (f1.trans k1)) hP (fun q hq => ?_) keep torn cut h0 h1)
    rcases hp.2 q hq with h | h
    · rcases f2 q h with h | ⟨i, hi, e⟩
      · exact inD _ (Nat.le_refl _) q (k2 q h)
      · exact ⟨_, .inr (getD_mem (by omega)), e⟩
    · exact ⟨_, .inr (getD_mem hj), h⟩
  · refine .inl (crash_before hO hL hA.sync hg (t1.trans k1) hP (fun q hq => ?_) keep torn cut h0 h1)
    rcases t2 q hq with h | ⟨i, hi, e⟩
    · exact inD _ (Nat.le_refl _) q (k2 q h)
    · exact ⟨_, .inr (getD_mem (by omega)), e⟩
  · have hs : (y.crash keep torn cut).seen = (preV S data tabs).x.seen := by rw [hy]; rfl
    have h2 : ∀ z, (z ∈ data ∨ z ∈ tabs) → 2 ≤ z := fun z hz => hz.elim (fun h => (hP.hd z h).1) (fun h => (hP.ht z h).1)
    refine .inl (hL.same (x' := y.crash keep torn cut) hO (T := fun q => ∃ z, (z ∈ data ∨ z ∈ tabs) ∧ q = z.toNat) (by rw [hs]; exact p1) ?_ ?_ ?_ ?_)
    · rintro ⟨z, hz, e⟩; have := h2 z hz; omega
    · rintro ⟨z, hz, e⟩; have := h2 z hz; omega
    · rintro t ht ⟨z, hz, e⟩
      have h3 := h2 z hz
      have h4 := hO.tabs t ht
      exact hP.ft z hz (by rw [show z = t by omega]; exact ht)
    · rintro i p hp ⟨z, hz, e⟩
      have h3 := h2 z hz
      exact hP.fk z hz i p hp (by omega)
  · obtain ⟨r1, r2, r3, r4⟩ := root_other hO
    have hn := hO.n1
    have CM := tw_ok (fw_ok hO hP.hd (freshN S.now).length (by omega) (Nat.le_refl _)) (tab_byte S.now data) hP.ht tabs.length (Nat.le_refl _)
    have hlen : (preV S data tabs).x.seen.length = n * 32 := CM.good.seen
    have h2 : ∀ z, (z ∈ data ∨ z ∈ tabs) → 2 ≤ z := fun z hz => hz.elim (fun h => (hP.hd z h).1) (fun h => (hP.ht z h).1)
    obtain ⟨rN, hrN⟩ : ∃ rN, rN = rootB (cmV S data tabs) := ⟨_, rfl⟩
    have lN : rN.length = 32 := by rw [hrN]; exact rootB_len _
    have bN : ∀ y ∈ rN, 0 ≤ y ∧ y < 256 := by rw [hrN]; exact rootB_byte _
    rw [← hrN] at hy
    have hs : (y.crash keep torn cut).seen = crash1 keep torn cut 0 (((4 * (1 - S.root).toNat : Nat) : Int), rN) (preV S data tabs).x.seen := by rw [hy]; rfl
    unfold crash1 at hs
    split at hs
    · obtain ⟨k, hk⟩ : ∃ k, k = cutAt torn cut 0 := ⟨_, rfl⟩
      rw [← hk, Int.toNat_natCast] at hs
      have hk32 : k ≤ 32 := by rw [hk]; unfold cutAt; split <;> omega
      have hse := torn_sec (l := (preV S data tabs).x.seen) (b := rN) (m := 4 * (1 - S.root).toNat) (k := k) (by rw [hlen]; omega) lN hk32
      rw [← hs, r1] at hse
      have hx : SameBut (y.crash keep torn cut).seen (preV S data tabs).x.seen (fun q => q = (1 - S.root).toNat) := by
        rw [hs]
        exact same_splice (by rw [List.length_take, hlen]; omega) (by omega) (by rw [List.length_take]; omega)
      have hso : sec (preV S data tabs).x.seen (4 * (1 - S.root)) = sec S.x.seen (4 * (1 - S.root)) := by
        refine p1.sec ?_
        rintro ⟨z, hz, e⟩
        have := h2 z hz
        have := r1
        omega
      have lO : (sec S.x.seen (4 * (1 - S.root))).length = 32 := by
        have := hO.good.seen
        unfold sec
        rw [List.length_take, List.length_drop]
        omega
      have bO : ∀ y ∈ sec S.x.seen (4 * (1 - S.root)), 0 ≤ y ∧ y < 256 := fun z hz => hO.good.bs z (List.mem_of_mem_drop (List.mem_of_mem_take hz))
      have q1 := firstT_range (cm_ok hO hP.hd hP.ht hP.hl)
      obtain ⟨e1, e2, e3⟩ := cm_epoch (tabs := tabs) ⟨n, hO⟩ ⟨n, hO, hP.hd, hP.hl⟩
      have q3 := hO.ep
      have fl := root_flds (cmV S data tabs) (by omega) (by omega) q1.1 q1.2 (by rw [e3]; have := plan_tabs hO hP; omega)
      rw [hso] at hse
      rcases torn_root (E := S.epoch) lN lO bN bO hk32 (by rw [hrN, fl.1, fl.2.1]) hA.o24 with h | h
      · refine .inr (new_root hO hI hL hep hP hx ?_)
        rw [hse, h, hrN]
      · have hb : ∀ q, (∃ z, (z ∈ data ∨ z ∈ tabs) ∧ q = z.toNat) → 2 ≤ q := by
          rintro q ⟨z, hz, rfl⟩; have := h2 z hz; omega
        have hall : SameBut (y.crash keep torn cut).seen S.x.seen (fun q => q = (1 - S.root).toNat ∨ ∃ z, (z ∈ data ∨ z ∈ tabs) ∧ q = z.toNat) :=
          (hx.mono (fun q h => .inl h)).trans (p1.mono (fun q h => .inr h))
        refine .inl ⟨?_, hL.cnt, fun k hk2 => ?_, fun i p hp => ?_, ?_, hL.ep⟩
        · rw [hall.sec (s := 4 * S.root) ?_]
          · exact hL.root
          · rintro (h3 | h3)
            · exact r3 h3
            · have := hb _ h3; omega
        · rw [hall.page ?_]
          · exact hL.tab k hk2
          · have h4 := hO.tabs _ (List.getElem_mem hk2)
            rintro (h3 | ⟨z, hz, e⟩)
            · omega
            · have h3 := h2 z hz
              exact hP.ft z hz (by rw [show z = S.tabs[k] by omega]; exact List.getElem_mem hk2)
        · rw [hall.page ?_]
          · exact hL.data i p hp
          · have h4 := hO.kept i p hp
            rintro (h3 | ⟨z, hz, e⟩)
            · omega
            · have h3 := h2 z hz
              exact hP.fk z hz i p hp (by omega)
        · rw [hse]; exact h
    · refine .inl (hL.same (x' := y.crash keep torn cut) hO (T := fun q => ∃ z, (z ∈ data ∨ z ∈ tabs) ∧ q = z.toNat) (by rw [hs]; exact p1) ?_ ?_ ?_ ?_)
      · rintro ⟨z, hz, e⟩; have := h2 z hz; omega
      · rintro ⟨z, hz, e⟩; have := h2 z hz; omega
      · rintro t ht ⟨z, hz, e⟩
        have h3 := h2 z hz
        have h4 := hO.tabs t ht
        exact hP.ft z hz (by rw [show z = t by omega]; exact ht)
      · rintro i p hp ⟨z, hz, e⟩
        have h3 := h2 z hz
        exact hP.fk z hz i p hp (by omega)
end Go.Proofs.Ytochnokfcfmgnaa.St
end

section
/- Seat F: what is opened behind a crash, plain. -/
namespace Go.Proofs.Ytochnokfcfmgnaa.St
open Go Go.RowKit Go.Proofs.Ytochnokfcfmgnaa.Mem Go.Proofs.YtochnokfcfmgnaaW.PrintWords Go.Proofs.Ytochnokfcfmgnaa.Dk Go.Maps Go.ChangeMaps Go.Proofs.Ytochnokfcfmgnaa.Sh Go.Proofs.Ytochnokfcfmgnaa.Sp
set_option linter.unusedVariables false
set_option linter.unusedSimpArgs false
set_option maxRecDepth 100000
set_option maxHeartbeats 4000000
theorem plan_data {n : Nat} {S : SV} (hO : Ok n S) {data tabs : List Int} (hP : Plan n S data tabs) : data.length ≤ 101 := by
  have hn2 := hO.n2
  have h1 := nodup_len (a := data.map Int.toNat) (b := List.range 101) (nodup_map_toNat hP.nd (fun x hx => by have := hP.hd x hx; omega)) (fun y hy => by
    obtain ⟨t, ht, rfl⟩ := List.mem_map.1 hy
    have := hP.hd t ht
    rw [List.mem_range]
    omega)
  simpa using h1
theorem pgN_plen (x : DV) (p : Nat) (b : List Int) : ∀ i, (Pg.pgN x p b i).pend.length = x.pend.length + i
  | 0 => rfl
  | i + 1 => by
    have h1 := pgN_plen x p b i
    have e : (Pg.pgN x p b (i + 1)).pend = (Pg.pgN x p b i).pend ++ [(((4 * p + i : Nat) : Int), Pg.part b i)] := rfl
    rw [e, List.length_append, h1]
    simp
    omega
theorem fw_plen (S : SV) (data : List Int) : ∀ k, (fw S data k).x.pend.length = S.x.pend.length + 4 * k
  | 0 => rfl
  | k + 1 => by
    have h1 := fw_plen S data k
    have h3 := pgN_plen (fw S data k).x (data.getD k 0).toNat (Hand.packed (idV ((freshN S.now).getD k 0)) (dataOf (fw S data k).now ((freshN S.now).getD k 0))) 4
    have e : (fw S data (k + 1)).x.pend.length = (Pg.pgN (fw S data k).x (data.getD k 0).toNat (Hand.packed (idV ((freshN S.now).getD k 0)) (dataOf (fw S data k).now ((freshN S.now).getD k 0))) 4).pend.length := rfl
    omega
theorem tw_plen (T : SV) (b tabs : List Int) : ∀ k, (tw T b tabs k).x.pend.length = T.x.pend.length + 4 * k
  | 0 => rfl
  | k + 1 => by
    have h1 := tw_plen T b tabs k
    have h3 := pgN_plen (tw T b tabs k).x (tabs.getD k 0).toNat (Hand.packed 2 (tabPart b tabs k)) 4
    have e : (tw T b tabs (k + 1)).x.pend.length = (Pg.pgN (tw T b tabs k).x (tabs.getD k 0).toNat (Hand.packed 2 (tabPart b tabs k)) 4).pend.length := rfl
    omega
theorem mid_plen {n : Nat} {S : SV} (hO : Ok n S) {data tabs : List Int} (hP : Plan n S data tabs) {y : DV} (hm : Mid S data tabs y) : y.pend.length ≤ 900 := by
  have h1 := plan_data hO hP
  have h2 := plan_tabs hO hP
  have h3 := hP.hl
  have h4 : S.x.pend.length = 0 := by rw [hO.pend]; rfl
  have h5 := fw_plen S data (freshN S.now).length
  rcases hm with ⟨k, i, hk, hi, rfl⟩ | ⟨j, i, hj, hi, rfl⟩ | rfl | rfl | rfl
  · have := fw_plen S data k
    rw [pgN_plen]; omega
  · have := tw_plen (fw S data (freshN S.now).length) (tab S.now data).1 tabs j
    rw [pgN_plen]; omega
  · have := tw_plen (fw S data (freshN S.now).length) (tab S.now data).1 tabs tabs.length
    show (tw (fw S data (freshN S.now).length) (tab S.now data).1 tabs tabs.length).x.pend.length ≤ 900
    omega
  · exact Nat.zero_le _
  · show ([] ++ [_] : List (Int × List Int)).length ≤ 900
    simp
/-- The store on another disk on which it lies. -/
theorem Ok.moved {n : Nat} {S : SV} (h : Ok n S) {z : DV} (hg : Dk.Good z n) (hl : z.life = -1) (hp : z.pend = []) : Ok n { S with x := z, now := S.kept } := by
  have h := h.back
  exact ⟨hg, hl, hp, h.n1, h.n2, h.root, h.ep, h.tabs, h.kept, h.now⟩
theorem Lies.at {n : Nat} {S : SV} (hL : Lies n S.x S) (hy : Sync S.x) (hp : S.x.pend = []) (keep : List Bool) (torn cut : Int) : Lies n (S.x.crash keep torn cut) S := by
  have e : (S.x.crash keep torn cut).seen = S.x.seen := by
    show crashN keep torn cut S.x.kept S.x.pend S.x.pend.length = S.x.seen
    rw [hp, ← hy]
    rfl
  exact ⟨by rw [e]; exact hL.root, hL.cnt, fun k hk => by rw [e]; exact hL.tab k hk, fun i p hp => by rw [e]; exact hL.data i p hp, by rw [e]; exact hL.old, hL.ep⟩
/-- What a commit that ended so leaves, and what is opened behind a crash. -/
theorem co_open {n : Nat} {T : SV} (hO : Ok n T) (hI : Inj T) (hL : Lies n T.x T) (hA : Aux T) (hep : T.epoch + 1 < 18446744073709551616) {r : Int} {y : DV}
    (h : (¬ Fits T (n / 4) ∧ r = 7 ∧ y = T.x) ∨ (Fits T (n / 4) ∧ r = 0 ∧ y = (cmV T (dataP T (n / 4)) (tabsP T (n / 4))).x) ∨ (Fits T (n / 4) ∧ r = 3 ∧ Mid T (dataP T (n / 4)) (tabsP T (n / 4)) y)) (keep : List Bool) (torn cut : Int) (h0 : 0 ≤ cut) (h1 : cut ≤ 32) :
    Dk.Good y n ∧ y.pend.length ≤ 900 ∧ ∃ X : SV, openV (y.crash keep torn cut) (n / 4) = some X ∧ Ok n X ∧ ((r ≠ 0 ∧ toldV X.now = toldV T.kept) ∨ (r ≠ 7 ∧ toldV X.now = toldV T.now)) := by
  have fin : ∀ {U : SV}, Ok n U → Inj U → Dk.Good y n → Lies n (y.crash keep torn cut) U → openV (y.crash keep torn cut) (n / 4) = some { U with x := y.crash keep torn cut, now := U.kept } ∧ Ok n { U with x := y.crash keep torn cut, now := U.kept } := fun hU hUI hg hUL =>
    ⟨open_lies hU hUI hUL, hU.moved (hg.crash keep torn cut h0 h1) rfl rfl⟩
  rcases h with ⟨hf, rfl, rfl⟩ | ⟨hf, rfl, rfl⟩ | ⟨hf, rfl, hm⟩
  · obtain ⟨q1, q2⟩ := fin hO hI hO.good (hL.at hA.sync hO.pend keep torn cut)
    exact ⟨hO.good, by rw [hO.pend]; exact Nat.zero_le _, _, q1, q2, .inl ⟨by decide, rfl⟩⟩
  · have hP := plan_ok hf
    have hC := cm_ok hO hP.hd hP.ht hP.hl
    have hCI : Inj (cmV T (dataP T (n / 4)) (tabsP T (n / 4))) := by
      have h2 := com_inj hO hI
      unfold comV at h2
      rw [if_pos hf] at h2
      exact h2
    obtain ⟨q1, q2⟩ := fin hC hCI hC.good ((cm_lies hO hI hL hep hP).at (cm_aux hO hI hL hep hP).sync hC.pend keep torn cut)
    exact ⟨hC.good, by rw [hC.pend]; exact Nat.zero_le _, _, q1, q2, .inr ⟨by decide, (cm_told hO hP.hd hP.hl).2.2⟩⟩
  · have hP := plan_ok hf
    have hg := mid_good hO hP hm
    refine ⟨hg, mid_plen hO hP hm, ?_⟩
    rcases mid_crash hO hI hL hA hep hP hm keep torn cut h0 h1 with hZ | hZ
    · obtain ⟨q1, q2⟩ := fin hO hI hg hZ
      exact ⟨_, q1, q2, .inl ⟨by decide, rfl⟩⟩
    · have hC := cm_ok hO hP.hd hP.ht hP.hl
      have hCI : Inj (cmV T (dataP T (n / 4)) (tabsP T (n / 4))) := by
        have h2 := com_inj hO hI
        unfold comV at h2
        rw [if_pos hf] at h2
        exact h2
      obtain ⟨q1, q2⟩ := fin hC hCI hg hZ
      exact ⟨_, q1, q2, .inr ⟨by decide, (cm_told hO hP.hd hP.hl).2.2⟩⟩
end Go.Proofs.Ytochnokfcfmgnaa.St
end

section
/- Seat F: ShadowCrashes, walked. -/
namespace Go.Proofs.Ytochnokfcfmgnaa.St
open Go Go.RowKit Go.Proofs.Ytochnokfcfmgnaa.Mem Go.Proofs.YtochnokfcfmgnaaW.PrintWords Go.Proofs.Ytochnokfcfmgnaa.Dk Go.Maps Go.ChangeMaps Go.Proofs.Ytochnokfcfmgnaa.Sh Go.Proofs.Ytochnokfcfmgnaa.Sp
set_option linter.unusedVariables false
set_option linter.unusedSimpArgs false
set_option maxRecDepth 100000
set_option maxHeartbeats 16000000
open PShadowCrashes (S89 k89 rd_T89 z89)
theorem St.lived {w w' : World} {own : Nat → Nat} {base g s : Nat} {S : SV} (h : St w own base g s S) {l : Int} (hd : IsDisk w' base (fun k => own k = 1) g (S.x.live l)) (ho : Only w w' (fun k => own k = 1)) : St w' own base g s (lv S l) := by
  obtain ⟨bk, bn, tv, h1, h2, h3, h4, h5, h6, h7, h8⟩ := h.blk
  refine ⟨Nat.le_trans h.hb ho.size, h.lo, hd, bk, bn, tv, h1.keep ho (by rw [h2]; decide), h2, h3, h4, h5, h6.keep ho (fun b hb => by rw [hb]; decide), h7.keep ho (fun b hb => by rw [hb]; decide) (by rw [h3]; decide), h8.keep ho (fun b hb => by rw [hb]; decide) (by rw [h4]; decide)⟩
theorem fits_need {n : Nat} {T : SV} (hT : Ok n T) : (planV T (n / 4)).2.2.1 ≤ ((freeS T (n / 4)).length : Int) ↔ Fits T (n / 4) := by
  have h := (need_iff hT).1
  unfold comV at h
  by_cases hf : Fits T (n / 4)
  · rw [if_pos hf] at h
    exact ⟨fun _ => hf, fun _ => h.1 rfl⟩
  · rw [if_neg hf] at h
    exact ⟨fun h2 => absurd (h.2 h2) (show ¬ (7 : Int) = 0 by decide), fun h2 => absurd h2 hf⟩
theorem crash_law {w : World} (s : Int) (A Am : Option Addr) (cc cm : Nat) (script more : List OpV) (life : Int) (AK : Option Addr) (ck : Nat) (keep : List Bool) (torn cut : Int) (hs : Script w A cc script) (hm : Script w Am cm more) (hl0 : 0 ≤ life) (hl1 : life < 256) (hK : Kd.bool.C w AK keep.length keep) (hKc : keep.length ≤ ck) (hKl : keep.length ≤ 140737488351232) :
    Calls Try.prog 8 #[.int .i64 s, .slice A script.length cc, .slice Am more.length cm, .int .u8 life, .slice AK keep.length ck, .int .i64 torn, .int .i64 cut] w fun e w' => e = .returned (.bool true) ∧ Below w.heap.size w w' := by
  obtain ⟨n, hn⟩ : ∃ n, n = sectorsOf s := ⟨_, rfl⟩
  have hr := sectorsOf_range s
  rw [← hn] at hr
  have SO := grown_ok hr.1 hr.2 hs.ok
  have HI := Lib.hid (grown_inj hr.1 hr.2 hs.ok)
  have HL := Lib.hid (grown_lies hr.1 hr.2 hs.ok hs.size)
  have HA := Lib.hid (grown_aux hr.1 hr.2 hs.ok hs.size)
  have HN := Lib.hid (grown_now n script)
  have GR := Lib.hid (grown_c s A cc script w hs.cells hs.cap hs.ok hs.size)
  rw [← hn] at GR
  have HM := Lib.hid hm
  have HK := Lib.hid hK
  have hsl := hs.size
  have hml := hm.size
  have hmc := hm.cap
  obtain ⟨S, hS⟩ : ∃ S, S = grownV n script := ⟨_, rfl⟩
  rw [← hS] at GR SO HI HL HN HA
  have HSO := Lib.hid SO.1
  have HEP := Lib.hid SO.2
  clear hS SO hs hm hn hK
  by_cases hcut : cut < 0 ∨ 32 < cut
  · by_cases h1 : cut < 0
    · have g1 : decide (cut < 0) = true := decide_eq_true h1
      go_enter Try.func8, Try.ntmps8
      go_wp2_with (first
        | (go_at_call 9; refine GR.out.mono ?_; rintro e w1 ⟨g, st, own, rfl, s1, b1⟩; have B1 := Lib.hid b1; clear s1 b1)
        | (go_at_call 10; refine (awake_c _).mono ?_; rintro e w2 ⟨rfl, b2⟩; replace B1 := Lib.hid (B1.out.trans (b2.mono B1.out.size)); clear b2)
        | fail)
      go_ret
      exact ⟨rfl, B1.out⟩
    · have g1 : decide (cut < 0) = false := decide_eq_false h1
      have h2 : 32 < cut := by omega
      have g2 : decide (32 < cut) = true := decide_eq_true h2
      go_enter Try.func8, Try.ntmps8
      go_wp2_with (first
        | (go_at_call 9; refine GR.out.mono ?_; rintro e w1 ⟨g, st, own, rfl, s1, b1⟩; have B1 := Lib.hid b1; clear s1 b1)
        | (go_at_call 10; refine (awake_c _).mono ?_; rintro e w2 ⟨rfl, b2⟩; replace B1 := Lib.hid (B1.out.trans (b2.mono B1.out.size)); clear b2)
        | fail)
      go_ret
      exact ⟨rfl, B1.out⟩
  have hc0 : 0 ≤ cut := by omega
  have hc1 : cut ≤ 32 := by omega
  have g1 : decide (cut < 0) = false := decide_eq_false (by omega)
  have g2 : decide (32 < cut) = false := decide_eq_false (by omega)
  have HCUT := Lib.hid hcut
  clear hcut
  go_enter Try.func8, Try.ntmps8
  go_wp2_with (first
    | (go_at_call 9; refine GR.out.mono ?_; rintro e w1 ⟨g, st, own, rfl, s1, b1⟩; have S1' := Lib.hid s1; have B1 := Lib.hid b1; clear s1 b1)
    | (go_at_call 10; refine (awake_c _).mono ?_; rintro e w2 ⟨rfl, b2⟩; have B2 := Lib.hid b2; clear b2)
    | fail)
  have HS2 := Lib.hid (S1'.out.below B2.out 0)
  have B02 := Lib.hid (B1.out.trans (B2.out.mono B1.out.size))
  obtain ⟨own2, ho2⟩ : ∃ own2, own2 = upd own w1.heap.size 0 := ⟨_, rfl⟩
  rw [← ho2] at HS2
  clear ho2
  have T3 := Lib.hid (told_c HS2.out HSO.out)
  go_wp2_with (first | (go_at_call 21; refine T3.out.mono ?_; rintro e w3 ⟨v3, rfl, r3, b3⟩; have P_3 := Lib.hid (Pages.of_told (own := own2) HSO.out r3); have B3 := Lib.hid b3; clear r3 b3 T3) | fail)
  have B03 := Lib.hid (B02.out.trans (B3.out.mono B02.out.size))
  have HS3 := Lib.hid (HS2.out.below B3.out 0)
  obtain ⟨own3, ho3⟩ : ∃ own3, own3 = upd own2 w2.heap.size 0 := ⟨_, rfl⟩
  rw [← ho3] at HS3 P_3
  obtain ⟨K, hK⟩ : ∃ K, K = toldV S.now := ⟨_, rfl⟩
  rw [← hK] at P_3
  have HKK := Lib.hid hK
  obtain ⟨A3, c3, ev3⟩ := Kd.R_slice P_3.out.1
  obtain ⟨nK, hnK⟩ : ∃ nK, nK = K.length := ⟨_, rfl⟩
  rw [← hnK] at ev3
  subst ev3
  clear ho3 hK hnK
  go_loopg [19] more.length (fun mm iv wr => ∃ k : Nat, iv = .int .i64 k ∧ Aside1 (k + mm = more.length) ∧ Aside1 (∃ own', St wr own' w.heap.size g st (moreV (n / 4) (more.take k) S) ∧ Pages wr own' (.slice A3 nK c3) K) ∧ Aside1 (Below w.heap.size w wr))
  case atStart => exact ⟨0, rfl, ⟨by omega⟩, ⟨own3, HS3.out, P_3.out⟩, ⟨B03.out⟩⟩
  case round =>
    obtain ⟨k, rfl, ⟨hkm⟩, ⟨own', hSt, hP⟩, ⟨hb⟩⟩ := hrel
    have PR := Lib.hid hP
    have KM := Lib.hid hkm
    have SR := Lib.hid hSt
    have BB := Lib.hid hb
    have hkl : k ≤ more.length := by omega
    clear hkm hSt hb hP HS2 S1' B02 HS3 B03 P_3
    by_cases hk : k < more.length
    · have hki : (k : Int) < (more.length : Int) := by omega
      have hk0 : (0 : Int) ≤ (k : Int) := by omega
      obtain ⟨ad, o, AB, cB, AK', cK, rfl, e1, e2, e3, e4⟩ := op_at HM.out.cells k hk
      have HE := Lib.hid e1
      have x0 : wr.cell? (ad.add (k * 6)) = _ := (BB.out.cell (World.block_lt_of_cell? _ _ (e2 0 _ rfl))).trans (e2 0 _ rfl)
      have C1 := Lib.hid (C_one HM.out.cells k HE.out)
      obtain ⟨MO, _, _, ME, _, _⟩ := more_ok HSO.out HM.out.ok k
      have WOK := Lib.hid MO
      have WEP := Lib.hid (show (moreV (n / 4) (more.take k) S).epoch + 1 < 18446744073709551616 by have := HEP.out; omega)
      have WS := Lib.hid (moreV_succ (c := n / 4) (S := S) HE.out)
      have HOO := Lib.hid (HM.out.ok o (List.mem_of_getElem? HE.out))
      clear e1 e2 e3 e4 MO ME
      obtain ⟨o1, or⟩ := o
      simp only at x0
      by_cases h3 : o1 = 3
      · subst h3
        have WS2 := Lib.hid (WS.out.trans (show moreS (n / 4) (moreV (n / 4) (more.take k) S) (3, or) = moreV (n / 4) (more.take k) S from if_pos rfl))
        go_wp2_with fail
        go_roundg (gk - 1)
        case measure => have := KM.out; omega
        case rel => exact ⟨k + 1, (by simp), ⟨by have := KM.out; omega⟩, ⟨own', by rw [WS2.out]; exact SR.out, PR.out⟩, ⟨BB.out⟩⟩
      · have t3 : (o1 == 3) = false := by simpa using h3
        have WS2 := Lib.hid (WS.out.trans (show moreS (n / 4) (moreV (n / 4) (more.take k) S) (o1, or) = opS (n / 4) (moreV (n / 4) (more.take k) S) (o1, or) from if_neg h3))
        have WK := Lib.hid (work_c SR.out WOK.out BB.out (some (ad.add (k * 6))) (cm - k) [(o1, or)] C1.out (by show 1 ≤ cm - k; omega) (fun o ho => by rw [List.mem_singleton.1 ho]; exact HOO.out) (by show _ + ((1 : Nat) : Int) < _; have := WEP.out; omega) (by show 1 ≤ _; omega))
        clear h3
        go_wp2_with (first
          | (go_at_call 19; refine WK.out.mono ?_; rintro e w4 ⟨rfl, ⟨own4, q4, s4⟩, o4⟩; have S4 := Lib.hid s4; have O4 := Lib.hid o4; have Q4 := Lib.hid q4; clear s4 o4 q4)
          | fail)
        go_roundg (gk - 1)
        case measure => have := KM.out; omega
        case rel => exact ⟨k + 1, (by simp), ⟨by have := KM.out; omega⟩, ⟨own4, by rw [WS2.out]; exact S4.out, PR.out.carry O4.out (fun b h h2 => by rw [OkO] at h2; rw [h] at h2; rcases h2 with h2 | h2 <;> cases h2) Q4.out⟩, ⟨BB.out.trans (SR.out.own0 O4.out)⟩⟩
    · have hki : ¬ (k : Int) < (more.length : Int) := by omega
      obtain rfl : k = more.length := by omega
      obtain ⟨MO, MX, MR, ME, MT, MK⟩ := more_ok HSO.out HM.out.ok more.length
      obtain ⟨T, hT⟩ : ∃ T, T = moreV (n / 4) (more.take more.length) S := ⟨_, rfl⟩
      rw [← hT] at SR MO MX MR ME MT MK
      have TI := Lib.hid (show Inj T from ⟨by rw [MK]; exact HI.out.inj, by rw [MK, MT]; exact HI.out.dis, by rw [MT]; exact HI.out.nod⟩)
      have TL := Lib.hid (show Lies n T.x T by rw [MX]; exact HL.out.cong MR ME MT MK)
      have TA := Lib.hid (show Aux T from HA.out.cong MX MR ME)
      have TOK := Lib.hid MO
      have TEP := Lib.hid (show T.epoch + 1 < 18446744073709551616 by have := HEP.out; omega)
      have HK2 := Lib.hid (show toldV T.kept = K by rw [MK, HKK.out, HN.out])
      have FN := Lib.hid (fits_need MO)
      have CO := Lib.hid (fun (r : Int) (y : DV) h => co_open (r := r) (y := y) TOK.out TI.out TL.out TA.out TEP.out h keep torn cut hc0 hc1)
      obtain ⟨fr, hfr⟩ : ∃ fr : Int, fr = ((freeS T (n / 4)).length : Int) := ⟨_, rfl⟩
      obtain ⟨nd, hnd⟩ : ∃ nd : Int, nd = (planV T (n / 4)).2.2.1 := ⟨_, rfl⟩
      have RC := Lib.hid (fun (w' : World) (o' : Nat → Nat) (h : St w' o' w.heap.size g st T) => room_c h TOK.out)
      rw [← hfr, ← hnd] at RC FN
      clear MO MX MR ME MT MK hT HL HI HN HKK HM HA hfr hnd
      have T4 := Lib.hid (told_c SR.out TOK.out)
      go_wp2_with (first | (go_at_call 21; refine T4.out.mono ?_; rintro e w4 ⟨v4, rfl, r4, b4⟩; have Q_4 := Lib.hid (Pages.of_told (own := own') TOK.out r4); have B4 := Lib.hid b4; clear r4 b4 T4) | fail)
      have B04 := Lib.hid (BB.out.trans (B4.out.mono BB.out.size))
      have HS4 := Lib.hid (SR.out.below B4.out 0)
      have P_4 := Lib.hid (PR.out.own' (Only.of_below B4.out (fun _ => False)) (fun _ _ h => h) 0)
      obtain ⟨own4, ho4⟩ : ∃ own4, own4 = upd own' wr.heap.size 0 := ⟨_, rfl⟩
      rw [← ho4] at HS4 P_4 Q_4
      clear ho4 SR PR BB B4
      have RC4 := Lib.hid (RC.out w4 own4 HS4.out)
      go_wp2_with (first | (go_at_call 20; refine RC4.out.mono ?_; rintro e w5 ⟨rfl, b5⟩; have B5 := Lib.hid b5; clear b5 RC4) | fail)
      have B05 := Lib.hid (B04.out.trans (B5.out.mono B04.out.size))
      have HS5 := Lib.hid (HS4.out.below B5.out 0)
      have P_5 := Lib.hid (P_4.out.own' (Only.of_below B5.out (fun _ => False)) (fun _ _ h => h) 0)
      have Q_5 := Lib.hid (Q_4.out.own' (Only.of_below B5.out (fun _ => False)) (fun _ _ h => h) 0)
      obtain ⟨own5, ho5⟩ : ∃ own5, own5 = upd own4 w4.heap.size 0 := ⟨_, rfl⟩
      rw [← ho5] at HS5 P_5 Q_5
      clear ho5 HS4 P_4 Q_4 B5 B04 RC
      have LV := Lib.hid (dk_live HS5.out.disk TOK.out.good life (by omega))
      have hwl : IntKind.i64.wrap life = life := wrap64_id (by omega) (by omega)
      go_wp2_with (first | (go_at_call 29; refine LV.out.mono ?_; rintro e w6 ⟨rfl, d6, o6⟩; have HS6 := Lib.hid (HS5.out.lived d6 o6); have O6 := Lib.hid o6; clear d6 o6 LV) | fail)
      have B06 := Lib.hid (B05.out.trans (O6.out.below B05.out.size (fun k hk h => by have := HS5.out.lo k (by rw [h]; decide); omega)))
      have P_6 := Lib.hid (P_5.out.carry (own' := own5) O6.out (fun b h h2 => by rw [h] at h2; cases h2) (fun _ _ => rfl))
      have Q_6 := Lib.hid (Q_5.out.carry (own' := own5) O6.out (fun b h h2 => by rw [h] at h2; cases h2) (fun _ _ => rfl))
      clear P_5 Q_5 O6
      have CC := Lib.hid (com_l HS6.out hl0 (by omega) TOK.out TEP.out)
      go_wp2_with fail
      refine CC.out.mono ?_
      rintro e w7 ⟨r, y, l', rfl, d7, o7, l0, l1, h7⟩
      obtain ⟨hg, hpl, X, hX, hXO, hXD⟩ := CO.out r y (h7.imp id (fun h => h.imp (fun h => ⟨h.1, h.2.1, h.2.2.2⟩) id))
      have B07 := Lib.hid (B06.out.trans (o7.below B06.out.size (fun k hk h => by have := HS5.out.lo k (by rcases h with h | h <;> rw [h] <;> decide); omega)))
      have P_7 := P_6.out.carry (own' := upd own5 w6.heap.size 1) o7 (fun b h h2 => by rw [h] at h2; rcases h2 with h2 | h2 <;> cases h2) (fun k hk => upd_lt hk)
      have Q_7 := Q_6.out.carry (own' := upd own5 w6.heap.size 1) o7 (fun b h h2 => by rw [h] at h2; rcases h2 with h2 | h2 <;> cases h2) (fun k hk => upd_lt hk)
      have D7 := d7.mono (ok' := fun b => upd own5 w6.heap.size 1 b = 1) (fun b hb => by
        by_cases hbw : b < w6.heap.size
        · rw [upd_lt hbw]; rcases hb with hb | hb; exact hb; omega
        · exact upd_ge (by omega))
      have HLO := Lib.hid (show ∀ k, upd own5 w6.heap.size 1 k = 1 → w.heap.size ≤ k from fun k hk => by
        by_cases hkw : k < w6.heap.size
        · rw [upd_lt hkw] at hk; exact HS5.out.lo k (by rw [hk]; decide)
        · have := B06.out.size; omega)
      obtain ⟨own7, ho7⟩ : ∃ own7, own7 = upd own5 w6.heap.size 1 := ⟨_, rfl⟩
      rw [← ho7] at P_7 Q_7 D7 HLO
      have hr : (r = 7 ∧ ¬ nd ≤ fr) ∨ (r = 0 ∧ nd ≤ fr ∧ 0 < life) ∨ (r = 3 ∧ nd ≤ fr) := by
        rcases h7 with ⟨h1, h2, _⟩ | ⟨h1, h2, h3, _⟩ | ⟨h1, h2, _⟩
        · exact .inl ⟨h2, fun h => h1 (FN.out.1 h)⟩
        · exact .inr (.inl ⟨h2, FN.out.2 h1, h3⟩)
        · exact .inr (.inr ⟨h2, FN.out.2 h1⟩)
      have HP := Lib.hid P_7
      have HQ := Lib.hid Q_7
      have HD := Lib.hid D7
      have HG := Lib.hid hg
      have HX := Lib.hid hX
      have HXO := Lib.hid hXO
      have L1 := Lib.hid (show (-1 : Int) ≤ l' ∧ 0 ≤ l' ∧ l' ≤ 9223372036854775807 from ⟨by omega, l0, by omega⟩)
      have HPL := Lib.hid hpl
      clear P_7 Q_7 D7 hg hX hXO hpl ho7 h7 d7 o7 l0 l1 CC CO FN TI TL TA HS5 HS6 P_6 Q_6 B05 B06 hwl
      rcases hr with ⟨rfl, hle⟩ | ⟨rfl, hle, hlp⟩ | ⟨rfl, hle⟩
      · have HXD := Lib.hid hXD
        clear hXD
        by_cases h0 : life = 0
        · subst h0
          go_wp2_with fail
          go_ret
          exact ⟨rfl, B07.out⟩
        have t0 : (life == 0) = false := by simpa using h0
        have t1 : decide (fr < nd) = true := decide_eq_true (by omega)
        have HBe : Hid (Below w7.heap.size w7 (w7.alloc (.cells #[] 4))) := Lib.hid (((Only.refl w7 (fun _ => False))).alloc _).below_all
        have HRe : Hid (Kd.bool.R 4 (w7.alloc (.cells #[] 4)) w7.heap.size (fun _ => True) (.slice (some ⟨w7.heap.size, 0, none⟩) 0 0) []) := Lib.hid (Kd.R_of_own ⟨rfl, .inr ⟨w7.heap.size, 0, #[], rfl, Nat.le_refl _, heap_alloc_new _ _, Nat.le_refl _, by unfold maxLen; omega, rfl, rfl⟩⟩ (fun _ _ => trivial))
        have hLL : (([] : List Bool).length + keep.length) * 1 ≤ 140737488355328 := by simp; omega
        have HCK : Hid (Kd.bool.C (w7.alloc (.cells #[] 4)) AK keep.length keep) := Lib.hid (Kd.C_below HK.out (((Only.of_below B07.out (fun _ => False)).step (Only.of_below HBe.out (fun _ => False)) (fun _ _ h => h)).below_all))
        have info4 : (Try.prog.info? 4).map (fun i => (i.zero, i.size, i.bytes)) = some (some (.bool false), 1, 1) := by kernel_rfl
        go_wp2_with (first
          | ((with_reducible refine gate_builtin (b := .append) (xs := #[.tmp 114, .tmp 115]) rfl ?_); at_builtin; refine Kd.R_append_rows Kd.bool (w0 := w7) w7.heap.size rfl (.tmp 114) (.tmp 115) 50 4 (.bool false) 1 rfl Try.underlying50 info4 rfl (by decide) (by omega) (.slice (some ⟨w7.heap.size, 0, none⟩) 0 0) [] keep _ _ _ (fun _ => True) (fun _ => False) rfl rfl HRe.out HCK.out (fun _ _ h => h) (fun _ h => h.elim) (fun _ _ => trivial) HBe.out HBe.out.size hLL ?_; intro v8 w8 hR8 hb8 hg8 hat8; rw [List.nil_append] at hR8; obtain ⟨A8, c8, ev8⟩ := Kd.R_slice hR8; subst ev8; have R8 := Lib.hid hR8; have B8 := Lib.hid hb8; clear hR8 hb8 hg8 hat8)
          | fail)
        have B08 := Lib.hid (B07.out.trans (B8.out.mono B07.out.size))
        have P_8 := HP.out.own' (Only.of_below B8.out (fun _ => False)) (fun _ _ h => h) 0
        have Q_8 := HQ.out.own' (Only.of_below B8.out (fun _ => False)) (fun _ _ h => h) 0
        refine (dk_crash (HD.out.bound.keep (Only.of_below B8.out (fun _ => False)) (fun _ _ h => h)) (HG.out.live L1.out.2.1 L1.out.2.2) (show (y.pend.length + 1) * 32 ≤ _ by have := HPL.out; omega) A8 c8 keep torn cut hc0 hc1 (Kd.R_reads' R8.out).2.2 (fun ad he _ hh => by subst he; have := Kd.R_base R8.out ad.block rfl; have := hh.2.2; omega) (Kd.R_reads' R8.out).2.1).mono ?_
        rintro e w9 ⟨rfl, d9, o9⟩
        have B09 := Lib.hid (B08.out.trans (o9.below B08.out.size (fun k hk h => by have := h.2.1; omega)))
        have P_9 := Lib.hid (P_8.carry (own' := upd own7 w7.heap.size 0) o9 (fun b h h2 => by rw [upd_lt h2.2.2, h2.1] at h; cases h) (fun _ _ => rfl))
        have Q_9 := Lib.hid (Q_8.carry (own' := upd own7 w7.heap.size 0) o9 (fun b h h2 => by rw [upd_lt h2.2.2, h2.1] at h; cases h) (fun _ _ => rfl))
        have D9 := d9.mono (ok' := fun k => upd own7 w7.heap.size 0 k = 1) (fun k hk => by rw [upd_lt hk.2.2]; exact hk.1)
        have LO9 : ∀ k, upd own7 w7.heap.size 0 k = 1 → w.heap.size ≤ k := fun k hk => by
          by_cases hkw : k < w7.heap.size
          · rw [upd_lt hkw] at hk; exact HLO.out k hk
          · rw [upd_ge (by omega)] at hk; cases hk
        have OC := open_c (x := y.crash keep torn cut) B09.out.size D9 LO9 (HG.out.crash keep torn cut hc0 hc1) rfl hr.1 hr.2
        rw [HX.out] at OC
        obtain ⟨own9, ho9⟩ : ∃ own9, own9 = upd own7 w7.heap.size 0 := ⟨_, rfl⟩
        rw [← ho9] at P_9 Q_9 OC
        have T10 := Lib.hid (show Calls Try.prog 26 #[.pointer (some ⟨g, 0, none⟩)] w9 fun e w' => ∃ sx ownx, e = .returned (.tuple #[.pointer (some ⟨sx, 0, none⟩), .int .i64 0]) ∧ St w' ownx w.heap.size g sx X ∧ Below w9.heap.size w9 w' from OC.mono (fun e w' ⟨h1, sx, ox, h2, h3, h4⟩ => ⟨sx, ox, h2, h4, h1⟩))
        clear OC d9 o9 D9 LO9 P_8 Q_8 HD HP HQ R8 B8 ho9 HBe HRe HCK hLL B08
        go_wp2_with (first | (go_at_call 26; refine T10.out.mono ?_; rintro e w10 ⟨sx, ownx, rfl, x10, b10⟩; have HX10 := Lib.hid x10; have B10 := Lib.hid b10; clear x10 b10 T10) | fail)
        have B010 := Lib.hid (B09.out.trans (B10.out.mono B09.out.size))
        have P_10 := Lib.hid (P_9.out.own' (Only.of_below B10.out (fun _ => False)) (fun _ _ h => h) 0)
        have Q_10 := Lib.hid (Q_9.out.own' (Only.of_below B10.out (fun _ => False)) (fun _ _ h => h) 0)
        obtain ⟨own10, ho10⟩ : ∃ own10, own10 = upd own9 w9.heap.size 0 := ⟨_, rfl⟩
        rw [← ho10] at P_10 Q_10
        have T11 := Lib.hid (told_c HX10.out HXO.out)
        go_wp2_with (first | (go_at_call 21; refine T11.out.mono ?_; rintro e w11 ⟨v11, rfl, r11, b11⟩; have A_11 := Lib.hid (Pages.of_told (own := own10) HXO.out r11); have B11 := Lib.hid b11; clear r11 b11 T11) | fail)
        have B011 := Lib.hid (B010.out.trans (B11.out.mono B010.out.size))
        have P_11 := Lib.hid (P_10.out.own' (Only.of_below B11.out (fun _ => False)) (fun _ _ h => h) 0)
        have Q_11 := Lib.hid (Q_10.out.own' (Only.of_below B11.out (fun _ => False)) (fun _ _ h => h) 0)
        have hEQ : toldV X.now = K := by rcases HXD.out with ⟨_, h⟩ | ⟨h, _⟩; exact h.trans HK2.out; exact absurd rfl h
        have HEQ := Lib.hid hEQ
        clear hEQ
        have SM := Lib.hid (same_c A_11.out P_11.out)
        go_wp2_with (first | (go_at_call 24; refine SM.out.mono ?_; rintro e w12 ⟨rr, rfl, hr12, b12⟩; rw [hr12 (HEQ.out)]; have B12 := Lib.hid b12; clear b12 hr12 SM) | fail)
        go_ret
        exact ⟨rfl, B011.out.trans (B12.out.mono B011.out.size)⟩
      · have HXD := Lib.hid hXD
        clear hXD
        have h0 : ¬ life = 0 := by omega
        have t0 : (life == 0) = false := by simpa using h0
        have t1 : decide (fr < nd) = false := decide_eq_false (by omega)
        have HBe : Hid (Below w7.heap.size w7 (w7.alloc (.cells #[] 4))) := Lib.hid (((Only.refl w7 (fun _ => False))).alloc _).below_all
        have HRe : Hid (Kd.bool.R 4 (w7.alloc (.cells #[] 4)) w7.heap.size (fun _ => True) (.slice (some ⟨w7.heap.size, 0, none⟩) 0 0) []) := Lib.hid (Kd.R_of_own ⟨rfl, .inr ⟨w7.heap.size, 0, #[], rfl, Nat.le_refl _, heap_alloc_new _ _, Nat.le_refl _, by unfold maxLen; omega, rfl, rfl⟩⟩ (fun _ _ => trivial))
        have hLL : (([] : List Bool).length + keep.length) * 1 ≤ 140737488355328 := by simp; omega
        have HCK : Hid (Kd.bool.C (w7.alloc (.cells #[] 4)) AK keep.length keep) := Lib.hid (Kd.C_below HK.out (((Only.of_below B07.out (fun _ => False)).step (Only.of_below HBe.out (fun _ => False)) (fun _ _ h => h)).below_all))
        have info4 : (Try.prog.info? 4).map (fun i => (i.zero, i.size, i.bytes)) = some (some (.bool false), 1, 1) := by kernel_rfl
        go_wp2_with (first
          | ((with_reducible refine gate_builtin (b := .append) (xs := #[.tmp 114, .tmp 115]) rfl ?_); at_builtin; refine Kd.R_append_rows Kd.bool (w0 := w7) w7.heap.size rfl (.tmp 114) (.tmp 115) 50 4 (.bool false) 1 rfl Try.underlying50 info4 rfl (by decide) (by omega) (.slice (some ⟨w7.heap.size, 0, none⟩) 0 0) [] keep _ _ _ (fun _ => True) (fun _ => False) rfl rfl HRe.out HCK.out (fun _ _ h => h) (fun _ h => h.elim) (fun _ _ => trivial) HBe.out HBe.out.size hLL ?_; intro v8 w8 hR8 hb8 hg8 hat8; rw [List.nil_append] at hR8; obtain ⟨A8, c8, ev8⟩ := Kd.R_slice hR8; subst ev8; have R8 := Lib.hid hR8; have B8 := Lib.hid hb8; clear hR8 hb8 hg8 hat8)
          | fail)
        have B08 := Lib.hid (B07.out.trans (B8.out.mono B07.out.size))
        have P_8 := HP.out.own' (Only.of_below B8.out (fun _ => False)) (fun _ _ h => h) 0
        have Q_8 := HQ.out.own' (Only.of_below B8.out (fun _ => False)) (fun _ _ h => h) 0
        refine (dk_crash (HD.out.bound.keep (Only.of_below B8.out (fun _ => False)) (fun _ _ h => h)) (HG.out.live L1.out.2.1 L1.out.2.2) (show (y.pend.length + 1) * 32 ≤ _ by have := HPL.out; omega) A8 c8 keep torn cut hc0 hc1 (Kd.R_reads' R8.out).2.2 (fun ad he _ hh => by subst he; have := Kd.R_base R8.out ad.block rfl; have := hh.2.2; omega) (Kd.R_reads' R8.out).2.1).mono ?_
        rintro e w9 ⟨rfl, d9, o9⟩
        have B09 := Lib.hid (B08.out.trans (o9.below B08.out.size (fun k hk h => by have := h.2.1; omega)))
        have P_9 := Lib.hid (P_8.carry (own' := upd own7 w7.heap.size 0) o9 (fun b h h2 => by rw [upd_lt h2.2.2, h2.1] at h; cases h) (fun _ _ => rfl))
        have Q_9 := Lib.hid (Q_8.carry (own' := upd own7 w7.heap.size 0) o9 (fun b h h2 => by rw [upd_lt h2.2.2, h2.1] at h; cases h) (fun _ _ => rfl))
        have D9 := d9.mono (ok' := fun k => upd own7 w7.heap.size 0 k = 1) (fun k hk => by rw [upd_lt hk.2.2]; exact hk.1)
        have LO9 : ∀ k, upd own7 w7.heap.size 0 k = 1 → w.heap.size ≤ k := fun k hk => by
          by_cases hkw : k < w7.heap.size
          · rw [upd_lt hkw] at hk; exact HLO.out k hk
          · rw [upd_ge (by omega)] at hk; cases hk
        have OC := open_c (x := y.crash keep torn cut) B09.out.size D9 LO9 (HG.out.crash keep torn cut hc0 hc1) rfl hr.1 hr.2
        rw [HX.out] at OC
        obtain ⟨own9, ho9⟩ : ∃ own9, own9 = upd own7 w7.heap.size 0 := ⟨_, rfl⟩
        rw [← ho9] at P_9 Q_9 OC
        have T10 := Lib.hid (show Calls Try.prog 26 #[.pointer (some ⟨g, 0, none⟩)] w9 fun e w' => ∃ sx ownx, e = .returned (.tuple #[.pointer (some ⟨sx, 0, none⟩), .int .i64 0]) ∧ St w' ownx w.heap.size g sx X ∧ Below w9.heap.size w9 w' from OC.mono (fun e w' ⟨h1, sx, ox, h2, h3, h4⟩ => ⟨sx, ox, h2, h4, h1⟩))
        clear OC d9 o9 D9 LO9 P_8 Q_8 HD HP HQ R8 B8 ho9 HBe HRe HCK hLL B08
        go_wp2_with (first | (go_at_call 26; refine T10.out.mono ?_; rintro e w10 ⟨sx, ownx, rfl, x10, b10⟩; have HX10 := Lib.hid x10; have B10 := Lib.hid b10; clear x10 b10 T10) | fail)
        have B010 := Lib.hid (B09.out.trans (B10.out.mono B09.out.size))
        have P_10 := Lib.hid (P_9.out.own' (Only.of_below B10.out (fun _ => False)) (fun _ _ h => h) 0)
        have Q_10 := Lib.hid (Q_9.out.own' (Only.of_below B10.out (fun _ => False)) (fun _ _ h => h) 0)
        obtain ⟨own10, ho10⟩ : ∃ own10, own10 = upd own9 w9.heap.size 0 := ⟨_, rfl⟩
        rw [← ho10] at P_10 Q_10
        have T11 := Lib.hid (told_c HX10.out HXO.out)
        go_wp2_with (first | (go_at_call 21; refine T11.out.mono ?_; rintro e w11 ⟨v11, rfl, r11, b11⟩; have A_11 := Lib.hid (Pages.of_told (own := own10) HXO.out r11); have B11 := Lib.hid b11; clear r11 b11 T11) | fail)
        have B011 := Lib.hid (B010.out.trans (B11.out.mono B010.out.size))
        have P_11 := Lib.hid (P_10.out.own' (Only.of_below B11.out (fun _ => False)) (fun _ _ h => h) 0)
        have Q_11 := Lib.hid (Q_10.out.own' (Only.of_below B11.out (fun _ => False)) (fun _ _ h => h) 0)
        have hEQ : toldV X.now = toldV T.now := by rcases HXD.out with ⟨h, _⟩ | ⟨_, h⟩; exact absurd rfl h; exact h
        have HEQ := Lib.hid hEQ
        clear hEQ
        have SM := Lib.hid (same_c A_11.out Q_11.out)
        go_wp2_with (first | (go_at_call 24; refine SM.out.mono ?_; rintro e w12 ⟨rr, rfl, hr12, b12⟩; rw [hr12 (HEQ.out)]; have B12 := Lib.hid b12; clear b12 hr12 SM) | fail)
        go_ret
        exact ⟨rfl, B011.out.trans (B12.out.mono B011.out.size)⟩
      · have HXD := Lib.hid hXD
        clear hXD
        by_cases h0 : life = 0
        · subst h0
          go_wp2_with fail
          go_ret
          exact ⟨rfl, B07.out⟩
        have t0 : (life == 0) = false := by simpa using h0
        have t1 : decide (fr < nd) = false := decide_eq_false (by omega)
        have HBe : Hid (Below w7.heap.size w7 (w7.alloc (.cells #[] 4))) := Lib.hid (((Only.refl w7 (fun _ => False))).alloc _).below_all
        have HRe : Hid (Kd.bool.R 4 (w7.alloc (.cells #[] 4)) w7.heap.size (fun _ => True) (.slice (some ⟨w7.heap.size, 0, none⟩) 0 0) []) := Lib.hid (Kd.R_of_own ⟨rfl, .inr ⟨w7.heap.size, 0, #[], rfl, Nat.le_refl _, heap_alloc_new _ _, Nat.le_refl _, by unfold maxLen; omega, rfl, rfl⟩⟩ (fun _ _ => trivial))
        have hLL : (([] : List Bool).length + keep.length) * 1 ≤ 140737488355328 := by simp; omega
        have HCK : Hid (Kd.bool.C (w7.alloc (.cells #[] 4)) AK keep.length keep) := Lib.hid (Kd.C_below HK.out (((Only.of_below B07.out (fun _ => False)).step (Only.of_below HBe.out (fun _ => False)) (fun _ _ h => h)).below_all))
        have info4 : (Try.prog.info? 4).map (fun i => (i.zero, i.size, i.bytes)) = some (some (.bool false), 1, 1) := by kernel_rfl
        go_wp2_with (first
          | ((with_reducible refine gate_builtin (b := .append) (xs := #[.tmp 114, .tmp 115]) rfl ?_); at_builtin; refine Kd.R_append_rows Kd.bool (w0 := w7) w7.heap.size rfl (.tmp 114) (.tmp 115) 50 4 (.bool false) 1 rfl Try.underlying50 info4 rfl (by decide) (by omega) (.slice (some ⟨w7.heap.size, 0, none⟩) 0 0) [] keep _ _ _ (fun _ => True) (fun _ => False) rfl rfl HRe.out HCK.out (fun _ _ h => h) (fun _ h => h.elim) (fun _ _ => trivial) HBe.out HBe.out.size hLL ?_; intro v8 w8 hR8 hb8 hg8 hat8; rw [List.nil_append] at hR8; obtain ⟨A8, c8, ev8⟩ := Kd.R_slice hR8; subst ev8; have R8 := Lib.hid hR8; have B8 := Lib.hid hb8; clear hR8 hb8 hg8 hat8)
          | fail)
        have B08 := Lib.hid (B07.out.trans (B8.out.mono B07.out.size))
        have P_8 := HP.out.own' (Only.of_below B8.out (fun _ => False)) (fun _ _ h => h) 0
        have Q_8 := HQ.out.own' (Only.of_below B8.out (fun _ => False)) (fun _ _ h => h) 0
        refine (dk_crash (HD.out.bound.keep (Only.of_below B8.out (fun _ => False)) (fun _ _ h => h)) (HG.out.live L1.out.2.1 L1.out.2.2) (show (y.pend.length + 1) * 32 ≤ _ by have := HPL.out; omega) A8 c8 keep torn cut hc0 hc1 (Kd.R_reads' R8.out).2.2 (fun ad he _ hh => by subst he; have := Kd.R_base R8.out ad.block rfl; have := hh.2.2; omega) (Kd.R_reads' R8.out).2.1).mono ?_
        rintro e w9 ⟨rfl, d9, o9⟩
        have B09 := Lib.hid (B08.out.trans (o9.below B08.out.size (fun k hk h => by have := h.2.1; omega)))
        have P_9 := Lib.hid (P_8.carry (own' := upd own7 w7.heap.size 0) o9 (fun b h h2 => by rw [upd_lt h2.2.2, h2.1] at h; cases h) (fun _ _ => rfl))
        have Q_9 := Lib.hid (Q_8.carry (own' := upd own7 w7.heap.size 0) o9 (fun b h h2 => by rw [upd_lt h2.2.2, h2.1] at h; cases h) (fun _ _ => rfl))
        have D9 := d9.mono (ok' := fun k => upd own7 w7.heap.size 0 k = 1) (fun k hk => by rw [upd_lt hk.2.2]; exact hk.1)
        have LO9 : ∀ k, upd own7 w7.heap.size 0 k = 1 → w.heap.size ≤ k := fun k hk => by
          by_cases hkw : k < w7.heap.size
          · rw [upd_lt hkw] at hk; exact HLO.out k hk
          · rw [upd_ge (by omega)] at hk; cases hk
        have OC := open_c (x := y.crash keep torn cut) B09.out.size D9 LO9 (HG.out.crash keep torn cut hc0 hc1) rfl hr.1 hr.2
        rw [HX.out] at OC
        obtain ⟨own9, ho9⟩ : ∃ own9, own9 = upd own7 w7.heap.size 0 := ⟨_, rfl⟩
        rw [← ho9] at P_9 Q_9 OC
        have T10 := Lib.hid (show Calls Try.prog 26 #[.pointer (some ⟨g, 0, none⟩)] w9 fun e w' => ∃ sx ownx, e = .returned (.tuple #[.pointer (some ⟨sx, 0, none⟩), .int .i64 0]) ∧ St w' ownx w.heap.size g sx X ∧ Below w9.heap.size w9 w' from OC.mono (fun e w' ⟨h1, sx, ox, h2, h3, h4⟩ => ⟨sx, ox, h2, h4, h1⟩))
        clear OC d9 o9 D9 LO9 P_8 Q_8 HD HP HQ R8 B8 ho9 HBe HRe HCK hLL B08
        go_wp2_with (first | (go_at_call 26; refine T10.out.mono ?_; rintro e w10 ⟨sx, ownx, rfl, x10, b10⟩; have HX10 := Lib.hid x10; have B10 := Lib.hid b10; clear x10 b10 T10) | fail)
        have B010 := Lib.hid (B09.out.trans (B10.out.mono B09.out.size))
        have P_10 := Lib.hid (P_9.out.own' (Only.of_below B10.out (fun _ => False)) (fun _ _ h => h) 0)
        have Q_10 := Lib.hid (Q_9.out.own' (Only.of_below B10.out (fun _ => False)) (fun _ _ h => h) 0)
        obtain ⟨own10, ho10⟩ : ∃ own10, own10 = upd own9 w9.heap.size 0 := ⟨_, rfl⟩
        rw [← ho10] at P_10 Q_10
        have T11 := Lib.hid (told_c HX10.out HXO.out)
        go_wp2_with (first | (go_at_call 21; refine T11.out.mono ?_; rintro e w11 ⟨v11, rfl, r11, b11⟩; have A_11 := Lib.hid (Pages.of_told (own := own10) HXO.out r11); have B11 := Lib.hid b11; clear r11 b11 T11) | fail)
        have B011 := Lib.hid (B010.out.trans (B11.out.mono B010.out.size))
        have P_11 := Lib.hid (P_10.out.own' (Only.of_below B11.out (fun _ => False)) (fun _ _ h => h) 0)
        have Q_11 := Lib.hid (Q_10.out.own' (Only.of_below B11.out (fun _ => False)) (fun _ _ h => h) 0)
        have SM := Lib.hid (same_c A_11.out P_11.out)
        have SQ := Lib.hid (fun (w' : World) (b : Below w11.heap.size w11 w') => same_c (A_11.out.own' (Only.of_below b (fun _ => False)) (fun _ _ h => h) 0) (Q_11.out.own' (Only.of_below b (fun _ => False)) (fun _ _ h => h) 0))
        go_wp2_with fail
        refine SM.out.mono ?_
        rintro e w12 ⟨rr, rfl, hr12, b12⟩
        have B12 := Lib.hid b12
        have SQ2 := Lib.hid (SQ.out w12 b12)
        have HR12 := Lib.hid hr12
        clear b12 hr12 SQ
        cases rr with
        | true =>
          go_wp2_with fail
          go_ret
          exact ⟨rfl, B011.out.trans (B12.out.mono B011.out.size)⟩
        | false =>
          have hEQ : toldV X.now = toldV T.now := by rcases HXD.out with ⟨_, h⟩ | ⟨_, h⟩; exact absurd (HR12.out (h.trans HK2.out)) (by decide); exact h
          have HEQ := Lib.hid hEQ
          clear hEQ
          go_wp2_with (first | (go_at_call 24; refine SQ2.out.mono ?_; rintro e w13 ⟨rr, rfl, hr13, b13⟩; rw [hr13 HEQ.out]; have B13 := Lib.hid b13; clear b13 hr13 SQ2) | fail)
          go_ret
          exact ⟨rfl, B011.out.trans ((B12.out.trans (B13.out.mono B12.out.size)).mono B011.out.size)⟩
theorem bools_le4 {l : List Bool} (h : l.length * Try.prog.bytesOf 4 ≤ reachBytes) : l.length ≤ 140737488351232 := by
  have e2 : Try.prog.bytesOf 4 = 1 := by kernel_rfl
  have e4 : reachBytes = 140737488351232 := by decide
  rw [e2, e4] at h
  omega
end Go.Proofs.Ytochnokfcfmgnaa.St
end
