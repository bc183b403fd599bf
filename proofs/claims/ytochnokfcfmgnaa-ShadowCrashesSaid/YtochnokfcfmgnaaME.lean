/- Texts merged: a section each. -/
import Derived.Test.YtochnokfcfmgnaaMC
import Derived.Test.YtochnokfcfmgnaaMD
import Derived.Test.YtochnokfcfmgnaaMP
import Derived.Test.YtochnokfcfmgnaaMX
import Derived.Test.YtochnokfcfmgnaaMB
section
/- Seat F: what a commit makes, plain. -/
namespace Go.Proofs.Ytochnokfcfmgnaa.St
open Go Go.RowKit Go.Proofs.Ytochnokfcfmgnaa.Mem Go.Proofs.YtochnokfcfmgnaaW.PrintWords Go.Proofs.Ytochnokfcfmgnaa.Dk Go.Maps Go.ChangeMaps Go.Proofs.Ytochnokfcfmgnaa.Sh Go.Proofs.Ytochnokfcfmgnaa.Sp Go.Proofs.Ytochnokfcfmgnaa.Pg
set_option linter.unusedVariables false
set_option linter.unusedSimpArgs false
set_option maxRecDepth 100000
set_option maxHeartbeats 1000000
/-- How many pages of tables a commit makes. -/
noncomputable def tabN (S : SV) (c : Nat) : Nat := pagesN (tab S.now ((freeS S c).take (freshN S.now).length)).1.length
theorem planN_eq (S : SV) (c : Nat) : ∀ k n, k + n = c + 2 → n ≤ tabN S c → planN S c (freshN S.now).length k n = if (freeS S c).length < (freshN S.now).length + tabN S c then ([], [], mostV S c (freshN S.now).length, 7) else ((freeS S c).take (freshN S.now).length, ((freeS S c).take ((freshN S.now).length + tabN S c)).drop (freshN S.now).length, (((freshN S.now).length + tabN S c : Nat) : Int), 0)
  | 0, n, h1, h2 => by
    have := freeS_len S c
    unfold planN
    rw [if_pos (by omega)]
  | k + 1, n, h1, h2 => by
    unfold planN
    by_cases hl : (freeS S c).length < (freshN S.now).length + n
    · rw [if_pos hl, if_pos (by omega)]
    · rw [if_neg hl]
      by_cases hp : pagesN (tab S.now ((freeS S c).take (freshN S.now).length)).1.length ≤ n
      · have e : tabN S c = n := Nat.le_antisymm hp h2
        rw [if_pos hp, e, if_neg hl]
      · rw [if_neg hp]
        exact planN_eq S c k (n + 1) (by omega) (by unfold tabN at h2 ⊢; omega)
theorem planV_eq (S : SV) (c : Nat) : planV S c = if (freeS S c).length < (freshN S.now).length + tabN S c then ([], [], mostV S c (freshN S.now).length, 7) else ((freeS S c).take (freshN S.now).length, ((freeS S c).take ((freshN S.now).length + tabN S c)).drop (freshN S.now).length, (((freshN S.now).length + tabN S c : Nat) : Int), 0) :=
  planN_eq S c (c + 2) 0 (by omega) (Nat.zero_le _)
/-- Is there room? -/
def Fits (S : SV) (c : Nat) : Prop := (freshN S.now).length + tabN S c ≤ (freeS S c).length
noncomputable def dataP (S : SV) (c : Nat) : List Int := (freeS S c).take (freshN S.now).length
noncomputable def tabsP (S : SV) (c : Nat) : List Int := ((freeS S c).take ((freshN S.now).length + tabN S c)).drop (freshN S.now).length
open Classical in
/-- A commit: the store behind it, and the error. -/
noncomputable def comV (S : SV) (c : Nat) : SV × Int := if Fits S c then (cmV S (dataP S c) (tabsP S c), 0) else (S, 7)
theorem free_range {S : SV} {c : Nat} {x : Int} (h : x ∈ freeS S c) : 2 ≤ x ∧ x < (c : Int) := by
  obtain ⟨k, h1, h2, rfl⟩ := freeS_mem.1 h
  have h3 : k ≠ 0 := fun e => h2 (.inl e)
  have h4 : k ≠ 1 := fun e => h2 (.inr (.inl e))
  omega
theorem dataP_range {S : SV} {c : Nat} : ∀ x ∈ dataP S c, 2 ≤ x ∧ x < (c : Int) := fun x h => free_range (List.mem_of_mem_take h)
theorem tabsP_range {S : SV} {c : Nat} : ∀ x ∈ tabsP S c, 2 ≤ x ∧ x < (c : Int) := fun x h => free_range (List.mem_of_mem_take (List.mem_of_mem_drop h))
theorem dataP_len {S : SV} {c : Nat} (h : Fits S c) : (dataP S c).length = (freshN S.now).length := by unfold dataP; unfold Fits at h; rw [List.length_take]; omega
theorem tabsP_len {S : SV} {c : Nat} (h : Fits S c) : (tabsP S c).length = tabN S c := by unfold tabsP; unfold Fits at h; rw [List.length_drop, List.length_take]; omega
theorem tabsP_le {S : SV} {c : Nat} : (tabsP S c).length ≤ c := by unfold tabsP; rw [List.length_drop, List.length_take]; have := freeS_len S c; omega
/-- Behind k pages of data: those that were written lie where they were written, the others as before. -/
theorem fw_now (S : SV) (data : List Int) : ∀ k, k ≤ (freshN S.now).length → (∀ i q, i < k → (freshN S.now)[i]? = some q → ∃ p, S.now q = some p ∧ (fw S data k).now q = some ((data.getD i 0).toNat, p.2)) ∧ (∀ j, j ∉ (freshN S.now).take k → (fw S data k).now j = S.now j)
  | 0, _ => ⟨fun i q h => absurd h (by omega), fun j _ => rfl⟩
  | k + 1, h => by
    obtain ⟨ih1, ih2⟩ := fw_now S data k (by omega)
    have hlt : k < (freshN S.now).length := by omega
    have hnd : (freshN S.now).Nodup := by
      have h1 := (keysN_pairwise S.now).sublist (List.filter_sublist (p := fun q => match S.now q with | none => false | some p => decide (p.1 = 0)))
      exact h1.imp (fun {a b} h e => by omega)
    obtain ⟨q0, hq0⟩ : ∃ q0, (freshN S.now)[k]? = some q0 := ⟨_, List.getElem?_eq_getElem hlt⟩
    have e0 : (freshN S.now).getD k 0 = q0 := by rw [List.getD_eq_getElem?_getD, hq0]; rfl
    have hget : (freshN S.now)[k] = q0 := by rw [List.getElem?_eq_getElem hlt] at hq0; injection hq0
    have hnin : q0 ∉ (freshN S.now).take k := by
      intro hm
      obtain ⟨i, hi, he⟩ := List.mem_iff_getElem.1 hm
      rw [List.getElem_take] at he
      have hik : i < k := by rw [List.length_take] at hi; omega
      have := List.pairwise_iff_getElem.1 hnd i k (by omega) hlt hik
      exact this (by rw [he, hget])
    have hmem : q0 ∈ freshN S.now := List.mem_of_getElem? hq0
    obtain ⟨hk1, hk2⟩ := List.mem_filter.1 hmem
    obtain ⟨p0, hp0⟩ := Option.isSome_iff_exists.1 (mem_keysN.1 hk1).2
    have hfq := ih2 q0 hnin
    have hd : dataOf (fw S data k).now q0 = p0.2 := by unfold dataOf; rw [hfq, hp0]
    have hnow : (fw S data (k + 1)).now = fun j => if j = q0 then some ((data.getD k 0).toNat, p0.2) else (fw S data k).now j := by
      conv => lhs; unfold fw
      rw [e0, hd]
    have htk : (freshN S.now).take (k + 1) = (freshN S.now).take k ++ [q0] := by rw [List.take_add_one, hq0]; rfl
    refine ⟨fun i q hi hq => ?_, fun j hj => ?_⟩
    · rw [hnow]
      by_cases e : q = q0
      · subst e
        refine ⟨p0, hp0, ?_⟩
        have hik : i = k := by
          have hi2 : i < (freshN S.now).length := (List.getElem?_eq_some_iff.1 hq).1
          have he : (freshN S.now)[i] = (freshN S.now)[k] := by rw [hget]; exact (List.getElem?_eq_some_iff.1 hq).2
          rcases Nat.lt_trichotomy i k with h1 | h1 | h1
          · exact absurd he (List.pairwise_iff_getElem.1 hnd i k hi2 hlt h1)
          · exact h1
          · exact absurd he.symm (List.pairwise_iff_getElem.1 hnd k i hlt hi2 h1)
        subst hik
        exact if_pos rfl
      · rw [show (fun j => if j = q0 then some ((data.getD k 0).toNat, p0.2) else (fw S data k).now j) q = (fw S data k).now q from if_neg e]
        have hik : i < k := by
          rcases Nat.lt_or_ge i k with h1 | h1
          · exact h1
          · obtain rfl : i = k := by omega
            rw [hq0] at hq
            injection hq with hq
            exact absurd hq.symm e
        exact ih1 i q hik hq
    · rw [htk] at hj
      rw [hnow]
      refine (if_neg (fun e => hj (List.mem_append.2 (.inr (by rw [e]; exact List.mem_singleton.2 rfl))))).trans ?_
      exact ih2 j (fun h => hj (List.mem_append.2 (.inl h)))
theorem tw_now (T : SV) (b tabs : List Int) : ∀ k, (tw T b tabs k).now = T.now ∧ (tw T b tabs k).kept = T.kept ∧ (tw T b tabs k).root = T.root ∧ (tw T b tabs k).epoch = T.epoch ∧ (tw T b tabs k).tabs = T.tabs
  | 0 => ⟨rfl, rfl, rfl, rfl, rfl⟩
  | k + 1 => tw_now T b tabs k
theorem mem_fresh {f : PM} {q : Nat} : q ∈ freshN f ↔ q < 728 ∧ ∃ p, f q = some p ∧ p.1 = 0 := by
  unfold freshN
  rw [List.mem_filter, mem_keysN]
  constructor
  · rintro ⟨⟨h1, h2⟩, h3⟩
    cases hf : f q with
    | none => rw [hf] at h2; cases h2
    | some p => rw [hf] at h3; exact ⟨h1, p, rfl, of_decide_eq_true h3⟩
  · rintro ⟨h1, p, h2, h3⟩
    rw [h2]
    exact ⟨⟨h1, rfl⟩, decide_eq_true h3⟩
/-- What is now behind a commit. -/
theorem cm_now {n : Nat} {S : SV} (hO : Ok n S) {data tabs : List Int} (hd : ∀ p ∈ data, 2 ≤ p ∧ p < ((n / 4 : Nat) : Int)) (hl : data.length = (freshN S.now).length) (j : Nat) :
    (S.now j = none ∧ (cmV S data tabs).now j = none) ∨ (∃ p, S.now j = some p ∧ p.1 ≠ 0 ∧ (cmV S data tabs).now j = some p) ∨ (∃ p i, S.now j = some p ∧ p.1 = 0 ∧ (freshN S.now)[i]? = some j ∧ ∃ h : i < data.length, (cmV S data tabs).now j = some (data[i].toNat, p.2)) := by
  have e : (cmV S data tabs).now = (fw S data (freshN S.now).length).now := (tw_now _ _ _ _).1
  rw [e]
  obtain ⟨h1, h2⟩ := fw_now S data _ (Nat.le_refl (freshN S.now).length)
  rw [List.take_length] at h2
  by_cases hj : j ∈ freshN S.now
  · obtain ⟨hj7, p, hp, hp0⟩ := mem_fresh.1 hj
    obtain ⟨i, hi, hij⟩ := List.mem_iff_getElem.1 hj
    have hij2 : (freshN S.now)[i]? = some j := by rw [List.getElem?_eq_getElem hi, hij]
    obtain ⟨p', hp', hf⟩ := h1 i j hi hij2
    rw [hp] at hp'
    injection hp' with hp'
    subst hp'
    refine .inr (.inr ⟨p, i, hp, hp0, hij2, by omega, ?_⟩)
    rw [hf, List.getD_eq_getElem?_getD, List.getElem?_eq_getElem (by omega)]
    rfl
  · have h3 := h2 j hj
    cases hs : S.now j with
    | none => exact .inl ⟨rfl, by rw [h3, hs]⟩
    | some p =>
      refine .inr (.inl ⟨p, rfl, fun e => hj (mem_fresh.2 ⟨(hO.now j p hs).1, p, hs, e⟩), by rw [h3, hs]⟩)
theorem cm_kept {S : SV} {data tabs : List Int} : (cmV S data tabs).kept = (cmV S data tabs).now := rfl
theorem cm_epoch {S : SV} {data tabs : List Int} (hO : ∃ n, Ok n S) (hd : ∃ n : Nat, Ok n S ∧ (∀ p ∈ data, 2 ≤ p ∧ p < ((n / 4 : Nat) : Int)) ∧ data.length = (freshN S.now).length) : (cmV S data tabs).epoch = S.epoch + 1 ∧ (cmV S data tabs).root = 1 - S.root ∧ (cmV S data tabs).tabs = tabs := by
  obtain ⟨n, h1, h2, h3⟩ := hd
  have CM := fw_ok h1 h2 (freshN S.now).length (by omega) (Nat.le_refl _)
  have t := tw_now (fw S data (freshN S.now).length) (tab S.now data).1 tabs tabs.length
  refine ⟨?_, ?_, rfl⟩
  · show (tw _ _ _ _).epoch + 1 = _
    rw [t.2.2.2.1, CM.ep]
  · show 1 - (tw _ _ _ _).root = _
    rw [t.2.2.1, CM.root]
theorem cm_ok {n : Nat} {S : SV} (hO : Ok n S) {data tabs : List Int} (hd : ∀ p ∈ data, 2 ≤ p ∧ p < ((n / 4 : Nat) : Int)) (ht : ∀ p ∈ tabs, 2 ≤ p ∧ p < ((n / 4 : Nat) : Int)) (hl : data.length = (freshN S.now).length) : Ok n (cmV S data tabs) := by
  have CM := tw_ok (fw_ok hO hd (freshN S.now).length (by omega) (Nat.le_refl _)) (tab_byte S.now data) ht tabs.length (Nat.le_refl _)
  obtain ⟨e1, e2, e3⟩ := cm_epoch (tabs := tabs) ⟨n, hO⟩ ⟨n, hO, hd, hl⟩
  obtain ⟨T, hT⟩ : ∃ T, T = tw (fw S data (freshN S.now).length) (tab S.now data).1 tabs tabs.length := ⟨_, rfl⟩
  rw [← hT] at CM
  have hrt : (1 - T.root).toNat ≤ 1 := by rw [CM.root]; rcases hO.root with h | h <;> rw [h] <;> decide
  have hx : ∃ U : SV, U.x = T.x.barrier ∧ (cmV S data tabs).x = (U.x.write (4 * (1 - T.root).toNat) (rootB U)).barrier := ⟨{ T with x := T.x.barrier, tabs := tabs, epoch := T.epoch + 1 }, rfl, by unfold cmV; rw [hT]⟩
  obtain ⟨U, hU, hx⟩ := hx
  have hg : Dk.Good (cmV S data tabs).x n := by
    rw [hx]
    refine (Good.write ?_ (by have := hO.n1; omega) (rootB_len _) (rootB_byte _)).barrier
    rw [hU]
    exact CM.good.barrier
  have hlf : (cmV S data tabs).x.life = -1 := by
    rw [hx]
    show spent (spent U.x.life) = -1
    rw [hU]
    show spent (spent (spent T.x.life)) = -1
    rw [CM.life]; rfl
  refine ⟨hg, hlf, by rw [hx]; rfl, hO.n1, hO.n2, ?_, by rw [e1]; have := hO.ep; omega, by rw [e3]; exact ht, ?_, ?_⟩
  · rw [e2]; rcases hO.root with h | h <;> rw [h] <;> decide
  · intro i p hp
    rw [cm_kept] at hp
    rcases cm_now hO hd hl (tabs := tabs) i with ⟨_, h⟩ | ⟨p0, h1, h2, h3⟩ | ⟨p0, k, h1, h2, h3, h4, h5⟩
    · rw [h] at hp; cases hp
    · rw [h3] at hp
      injection hp with hp
      subst hp
      have h6 := hO.now i p0 h1
      rcases h6.2.1 with h7 | h7
      · exact absurd h7 h2
      · exact hO.kept i p0 h7
    · rw [h5] at hp
      injection hp with hp
      subst hp
      have h6 := hO.now i p0 h1
      have h7 := hd _ (List.getElem_mem h4)
      exact ⟨h6.1, by show 2 ≤ (data[k]).toNat; omega, by show (data[k]).toNat < n / 4; omega, h6.2.2⟩
  · intro i p hp
    have hp2 := hp
    rw [cm_kept]
    rcases cm_now hO hd hl (tabs := tabs) i with ⟨_, h⟩ | ⟨p0, h1, h2, h3⟩ | ⟨p0, k, h1, h2, h3, h4, h5⟩
    · rw [h] at hp; cases hp
    · rw [h3] at hp
      injection hp with hp
      subst hp
      have h6 := hO.now i p0 h1
      exact ⟨h6.1, .inr h3, h6.2.2⟩
    · have hp3 := hp
      rw [h5] at hp
      injection hp with hp
      have h6 := hO.now i p0 h1
      refine ⟨h6.1, .inr hp3, ?_⟩
      subst hp
      exact h6.2.2
theorem com_ok {n : Nat} {S : SV} (hO : Ok n S) : Ok n (comV S (n / 4)).1 := by
  unfold comV
  split
  · exact cm_ok hO dataP_range tabsP_range (dataP_len ‹_›)
  · exact hO
theorem com_epoch {n : Nat} {S : SV} (hO : Ok n S) : (comV S (n / 4)).1.epoch ≤ S.epoch + 1 := by
  unfold comV
  split
  · rename_i h
    have := (cm_epoch (tabs := tabsP S (n / 4)) ⟨n, hO⟩ ⟨n, hO, dataP_range, dataP_len h⟩).1
    show (cmV _ _ _).epoch ≤ _
    omega
  · show S.epoch ≤ _; omega
end Go.Proofs.Ytochnokfcfmgnaa.St
end

section
/- Seat F: Commit, walked. -/
namespace Go.Proofs.Ytochnokfcfmgnaa.St
open Go Go.RowKit Go.Proofs.Ytochnokfcfmgnaa.Mem Go.Proofs.YtochnokfcfmgnaaW.PrintWords Go.Proofs.Ytochnokfcfmgnaa.Dk Go.Maps Go.ChangeMaps Go.Proofs.Ytochnokfcfmgnaa.Sh Go.Proofs.Ytochnokfcfmgnaa.Sp Go.Proofs.Ytochnokfcfmgnaa.Pg
set_option linter.unusedVariables false
set_option linter.unusedSimpArgs false
set_option maxRecDepth 100000
set_option maxHeartbeats 4000000
theorem com_c {w : World} {own : Nat → Nat} {base g s n : Nat} {S : SV} (h : St w own base g s S) (hO : Ok n S) (hep : S.epoch + 1 < 18446744073709551616) :
    Calls Try.prog 23 #[.pointer (some ⟨s, 0, none⟩)] w fun e w' => e = .returned (.int .i64 (comV S (n / 4)).2) ∧ (∃ own', (∀ k, k < w.heap.size → own' k = own k) ∧ St w' own' base g s (comV S (n / 4)).1) ∧ Only w w' (fun k => own k = 1 ∨ own k = 3) := by
  have H0 := Lib.hid h
  have HO := Lib.hid hO
  have HEP := Lib.hid hep
  have PL := Lib.hid (plan_c h hO)
  obtain ⟨bk, bn, tv, hs, h2, h3, h4, h5, h6, h7, h8⟩ := h.blk
  have HCk := Lib.hid (Go.Proofs.Ytochnokfcfmgnaa.Sh.check_ok s _ _ _ _ _ _ 0 w hs (by omega) (by omega))
  clear hs h2 h3 h4 h5 h6 h7 h8 h hO hep
  by_cases hf : Fits S (n / 4)
  · have HF := Lib.hid hf
    have hpl : planV S (n / 4) = (dataP S (n / 4), tabsP S (n / 4), (((freshN S.now).length + tabN S (n / 4) : Nat) : Int), 0) := by
      rw [planV_eq, if_neg (by unfold Fits at hf; omega)]; rfl
    have hcv : comV S (n / 4) = (cmV S (dataP S (n / 4)) (tabsP S (n / 4)), 0) := by unfold comV; rw [if_pos hf]
    rw [hpl] at PL
    rw [hcv]
    clear hpl hcv hf
    obtain ⟨dl, hdl⟩ : ∃ dl, dl = dataP S (n / 4) := ⟨_, rfl⟩
    obtain ⟨tl, htl⟩ : ∃ tl, tl = tabsP S (n / 4) := ⟨_, rfl⟩
    have hr1 : ∀ x ∈ dl, 2 ≤ x ∧ x < ((n / 4 : Nat) : Int) := by rw [hdl]; exact dataP_range
    have hr2 : ∀ x ∈ tl, 2 ≤ x ∧ x < ((n / 4 : Nat) : Int) := by rw [htl]; exact tabsP_range
    have hl1 : dl.length = (freshN S.now).length := by rw [hdl]; exact dataP_len HF.out
    have hl2 : tl.length ≤ 1000 := by have h1 := tabsP_le (S := S) (c := n / 4); rw [← htl] at h1; have h2 := HO.out.n2; omega
    rw [← hdl, ← htl] at PL
    rw [← hdl, ← htl]
    have HR1 := Lib.hid hr1
    have HR2 := Lib.hid hr2
    have HL1 := Lib.hid hl1
    clear hdl htl hr1 hr2 hl1
    go_enter Try.func23, Try.ntmps23
    go_wp2_with (first
      | (go_at_call 32; with_reducible refine HCk.out.mono ?_; rintro e wz ⟨rfl, hwz⟩; rw [hwz]; clear hwz)
      | (go_at_call 42; refine PL.out.mono ?_; rintro e w1 ⟨dv, tv1, rfl, r1, r2, b1⟩; have R1 := Lib.hid r1; have R2 := Lib.hid r2; have B1 := Lib.hid b1; clear r1 r2 b1)
      | fail)
    have S1 := H0.out.below B1.out 2
    have CC := Lib.hid (commit_c S1 HO.out dv tv1 dl tl (R1.out.mono (fun b _ hb => upd_ge hb)) (R2.out.mono (fun b _ hb => upd_ge hb)) HR1.out HR2.out HL1.out hl2 HEP.out)
    clear S1
    go_wp2_with (first
      | (go_at_call 43; refine CC.out.mono ?_; rintro e w2 ⟨rfl, hs2, o2⟩; have S2 := Lib.hid hs2; have O2 := Lib.hid o2; clear hs2 o2)
      | fail)
    go_ret
    obtain ⟨own2, q1, q2⟩ := S2.out
    have hz := B1.out.size
    exact ⟨rfl, ⟨own2, fun k hk => by rw [q1 k (by omega), upd_lt hk], q2⟩, (Only.of_below B1.out (fun k => own k = 1 ∨ own k = 3)).step O2.out (fun k hk h => by rw [upd_lt hk] at h; exact h)⟩
  · have hpl : planV S (n / 4) = ([], [], mostV S (n / 4) (freshN S.now).length, 7) := by
      rw [planV_eq, if_pos (by unfold Fits at hf; omega)]
    have hcv : comV S (n / 4) = (S, 7) := by unfold comV; rw [if_neg hf]
    rw [hpl] at PL
    rw [hcv]
    clear hpl hcv hf
    go_enter Try.func23, Try.ntmps23
    go_wp2_with (first
      | (go_at_call 32; with_reducible refine HCk.out.mono ?_; rintro e wz ⟨rfl, hwz⟩; rw [hwz]; clear hwz)
      | (go_at_call 42; refine PL.out.mono ?_; rintro e w1 ⟨dv, tv1, rfl, r1, r2, b1⟩; have R1 := Lib.hid r1; have R2 := Lib.hid r2; have B1 := Lib.hid b1; clear r1 r2 b1)
      | fail)
    go_ret
    exact ⟨rfl, ⟨_, fun k hk => upd_lt hk, H0.out.below B1.out 0⟩, Only.of_below B1.out _⟩
end Go.Proofs.Ytochnokfcfmgnaa.St
end

section
/- Seat F: a script, plain; an op of a script. -/
namespace Go.Proofs.Ytochnokfcfmgnaa.St
open Go Go.RowKit Go.Proofs.Ytochnokfcfmgnaa.Mem Go.Proofs.YtochnokfcfmgnaaW.PrintWords Go.Proofs.Ytochnokfcfmgnaa.Dk Go.Maps Go.ChangeMaps Go.Proofs.Ytochnokfcfmgnaa.Sh Go.Proofs.Ytochnokfcfmgnaa.Sp Go.Proofs.Ytochnokfcfmgnaa.Pg
set_option linter.unusedVariables false
set_option linter.unusedSimpArgs false
set_option maxRecDepth 100000
set_option maxHeartbeats 1000000
/-- An op: Kind, I, N, Cut, Data, Keep. -/
abbrev OpV := Int × Int × Int × Int × List Int × List Bool
abbrev kOp : Kd OpV := Kd.pair (Kd.int .i64) (Kd.pair (Kd.int .i64) (Kd.pair (Kd.int .i64) (Kd.pair (Kd.int .i64) (Kd.pair (Kd.slice 5 (Kd.int .u8)) (Kd.slice 4 Kd.bool)))))
/-- The bytes of an op are bytes. -/
def OpOk (o : OpV) : Prop := (∀ y ∈ o.2.2.2.2.1, 0 ≤ y ∧ y < 256) ∧ o.2.2.2.2.1.length ≤ 140737488351232
noncomputable def opS (c : Nat) (S : SV) (o : OpV) : SV :=
  if o.1 = 2 then dropV S o.2.1 else if o.1 = 3 then (comV S c).1 else if o.1 = 4 then { S with now := S.kept } else if o.1 = 1 ∨ o.1 = 5 ∨ o.1 = 6 ∨ o.1 = 7 ∨ o.1 = 8 ∨ o.1 = 9 then S else putV S o.2.1 o.2.2.2.2.1
noncomputable def workV (c : Nat) (script : List OpV) (S : SV) : SV := script.foldl (opS c) S
theorem workV_succ {c : Nat} {script : List OpV} {S : SV} {k : Nat} {o : OpV} (h : script[k]? = some o) : workV c (script.take (k + 1)) S = opS c (workV c (script.take k) S) o := by
  unfold workV
  rw [List.take_add_one, h, List.foldl_append]
  rfl
theorem Ok.put {n : Nat} {S : SV} (h : Ok n S) (i : Int) {d : List Int} (hd : ∀ y ∈ d, 0 ≤ y ∧ y < 256) : Ok n (putV S i d) := by
  unfold putV
  by_cases he : putE i d = 0
  · rw [if_pos he]
    have h1 : ¬ (i < 0 ∨ 728 ≤ i) ∧ ¬ 116 < d.length := by
      unfold putE at he
      split at he
      · omega
      · split at he
        · omega
        · exact ⟨‹_›, ‹_›⟩
    refine ⟨h.good, h.life, h.pend, h.n1, h.n2, h.root, h.ep, h.tabs, h.kept, fun j p hp => ?_⟩
    have hp : (if j = i.toNat then some (0, d) else S.now j) = some p := hp
    by_cases e : j = i.toNat
    · rw [if_pos e] at hp
      injection hp with hp
      subst hp
      exact ⟨by omega, .inl rfl, by show d.length ≤ 116; omega, hd⟩
    · rw [if_neg e] at hp
      exact h.now j p hp
  · rw [if_neg he]; exact h
theorem Ok.drop {n : Nat} {S : SV} (h : Ok n S) (i : Int) : Ok n (dropV S i) := by
  unfold dropV
  by_cases he : dropE S i = 0
  · rw [if_pos he]
    refine ⟨h.good, h.life, h.pend, h.n1, h.n2, h.root, h.ep, h.tabs, h.kept, fun j p hp => ?_⟩
    have hp : (if j = i.toNat then none else S.now j) = some p := hp
    by_cases e : j = i.toNat
    · rw [if_pos e] at hp; cases hp
    · rw [if_neg e] at hp
      exact h.now j p hp
  · rw [if_neg he]; exact h
theorem Ok.back {n : Nat} {S : SV} (h : Ok n S) : Ok n { S with now := S.kept } :=
  ⟨h.good, h.life, h.pend, h.n1, h.n2, h.root, h.ep, h.tabs, h.kept, fun j p hp => by
    have h1 := h.kept j p hp
    exact ⟨h1.1, .inr hp, h1.2.2.2⟩⟩
theorem Ok.op {n : Nat} {S : SV} (h : Ok n S) {o : OpV} (ho : OpOk o) : Ok n (opS (n / 4) S o) := by
  unfold opS
  split
  · exact h.drop _
  · split
    · exact com_ok h
    · split
      · exact h.back
      · split
        · exact h
        · exact h.put _ ho.1
theorem op_epoch {n : Nat} {S : SV} (h : Ok n S) (o : OpV) : (opS (n / 4) S o).epoch ≤ S.epoch + 1 := by
  unfold opS
  split
  · unfold dropV; split <;> (show S.epoch ≤ _; omega)
  · split
    · exact com_epoch h
    · split
      · show S.epoch ≤ _; omega
      · split
        · show S.epoch ≤ _; omega
        · unfold putV; split <;> (show S.epoch ≤ _; omega)
theorem work_ok {n : Nat} {S : SV} (h : Ok n S) {script : List OpV} (hs : ∀ o ∈ script, OpOk o) : ∀ k, Ok n (workV (n / 4) (script.take k) S) ∧ (workV (n / 4) (script.take k) S).epoch ≤ S.epoch + k
  | 0 => ⟨h, by show S.epoch ≤ _; omega⟩
  | k + 1 => by
    obtain ⟨h1, h2⟩ := work_ok h hs k
    cases hp : script[k]? with
    | none =>
      have e : script.take (k + 1) = script.take k := by rw [List.take_add_one, hp]; simp
      rw [e]
      exact ⟨h1, by omega⟩
    | some o =>
      rw [workV_succ hp]
      have h3 := op_epoch h1 o
      exact ⟨h1.op (hs o (List.mem_of_getElem? hp)), by omega⟩
theorem work_ok' {n : Nat} {S : SV} (h : Ok n S) {script : List OpV} (hs : ∀ o ∈ script, OpOk o) : Ok n (workV (n / 4) script S) ∧ (workV (n / 4) script S).epoch ≤ S.epoch + script.length := by
  have := work_ok h hs script.length
  rw [List.take_length] at this
  exact this
theorem op_at {w : World} {A : Option Addr} {script : List OpV} (h : kOp.C w A script.length script) (k : Nat) (hk : k < script.length) :
    ∃ ad o AB cB AK cK, A = some ad ∧ script[k]? = some o ∧ (∀ j v, [Value.int .i64 o.1, .int .i64 o.2.1, .int .i64 o.2.2.1, .int .i64 o.2.2.2.1, .slice AB o.2.2.2.2.1.length cB, .slice AK o.2.2.2.2.2.length cK][j]? = some v → w.cell? (ad.add (k * 6 + j)) = some v) ∧
      o.2.2.2.2.1.length ≤ cB ∧ (Kd.int .u8).C w AB o.2.2.2.2.1.length o.2.2.2.2.1 := by
  obtain ⟨ad, hA, hC⟩ := h.2.2 (by omega)
  have hp : script[k]? = some script[k] := List.getElem?_eq_getElem hk
  obtain ⟨c, hcl, hK, hcell⟩ := hC k _ hp
  obtain ⟨c0, r0, rfl, h0, c1, r1, rfl, h1, c2, r2, rfl, h2, c3, r3, rfl, h3, c5, c6, rfl, ⟨AB, cB, rfl, lB, rB⟩, ⟨AK, cK, rfl, lK, rK⟩⟩ := hK
  have h0 : c0 = [_] := h0
  have h1 : c1 = [_] := h1
  have h2 : c2 = [_] := h2
  have h3 : c3 = [_] := h3
  subst h0 h1 h2 h3
  exact ⟨ad, script[k], AB, cB, AK, cK, hA, hp, fun j v hv => hcell j v hv, lB, rB⟩
theorem R_flat {w : World} {base e : Nat} {ok : Nat → Prop} {k : IntKind} {A : Option Addr} {n c : Nat} {xs : List Int} (h : (Kd.int k).R e w base ok (.slice A n c) xs) : Flat A c := by
  obtain ⟨cells, hown, hreps⟩ := h.2
  rcases hown.2 with ⟨hv, h0⟩ | ⟨g, cap, cur, hv, hbase, hb, h1, h2, h3, h4⟩
  · injection hv with hA _ hc
    exact .inl ⟨hA, hc⟩
  · injection hv with hA _ hc
    exact .inr ⟨g, 0, hA⟩
theorem own_c (A : Option Addr) (c : Nat) (l : List Int) (w : World) (hr : (Kd.int .u8).C w A l.length l) (hc : l.length ≤ c) (hl : l.length ≤ 140737488351232) :
    Calls Try.prog 13 #[.slice A l.length c] w fun e w' => ∃ v, e = .returned v ∧ (Kd.int .u8).R 5 w' w.heap.size (fun _ => True) v l ∧ Below w.heap.size w w' := by
  refine PShadowCrashes.quirelaw04_own.calls A c l l w hr hc ?_
  unfold PShadowCrashes.quirelaw04_own.f
  simp only [Option.bind_some, List.length_nil, Nat.zero_add, List.nil_append]
  rw [if_pos (by omega)]
end Go.Proofs.Ytochnokfcfmgnaa.St
end

section
/- Seat F: a script is carried out, walked. -/
namespace Go.Proofs.Ytochnokfcfmgnaa.St
open Go Go.RowKit Go.Proofs.Ytochnokfcfmgnaa.Mem Go.Proofs.YtochnokfcfmgnaaW.PrintWords Go.Proofs.Ytochnokfcfmgnaa.Dk Go.Maps Go.ChangeMaps Go.Proofs.Ytochnokfcfmgnaa.Sh Go.Proofs.Ytochnokfcfmgnaa.Sp Go.Proofs.Ytochnokfcfmgnaa.Pg
set_option linter.unusedVariables false
set_option linter.unusedSimpArgs false
set_option maxRecDepth 100000
set_option maxHeartbeats 4000000
abbrev OkO (own : Nat → Nat) (k : Nat) : Prop := own k = 1 ∨ own k = 3
theorem St.own0 {w w' : World} {own : Nat → Nat} {base g s : Nat} {S : SV} (h : St w own base g s S) (ho : Only w w' (OkO own)) : Below base w w' :=
  ho.below h.hb (fun k hk h2 => by
    have := h.lo k (by rcases h2 with h2 | h2 <;> rw [h2] <;> decide)
    omega)
theorem work_c {w0 w : World} {own : Nat → Nat} {g s n : Nat} {S : SV} (h : St w own w0.heap.size g s S) (hO : Ok n S) (hB0 : Below w0.heap.size w0 w) (A : Option Addr) (cc : Nat) (script : List OpV) (hs : kOp.C w0 A script.length script) (hc : script.length ≤ cc) (hso : ∀ o ∈ script, OpOk o) (hep : S.epoch + script.length < 18446744073709551616) (hsl : script.length ≤ 140737488351232) :
    Calls Try.prog 19 #[.pointer (some ⟨s, 0, none⟩), .slice A script.length cc] w fun e w' => e = .returned (.tuple #[]) ∧ (∃ own', (∀ k, k < w.heap.size → own' k = own k) ∧ St w' own' w0.heap.size g s (workV (n / 4) script S)) ∧ Only w w' (OkO own) := by
  have H0 := Lib.hid h
  have HO := Lib.hid hO
  have HS := Lib.hid hs
  have HSO := Lib.hid hso
  have HEP := Lib.hid hep
  have HB0 := Lib.hid hB0
  clear h hO hs hso hep hB0
  go_enter Try.func19, Try.ntmps19
  go_wp2_with fail
  go_loopg [4] script.length (fun mm iv wr => ∃ k : Nat, iv = .int .i64 k ∧ Aside1 (k + mm = script.length) ∧ Aside1 (∃ own', (∀ b, b < w.heap.size → own' b = own b) ∧ St wr own' w0.heap.size g s (workV (n / 4) (script.take k) S)) ∧ Aside1 (Only w wr (OkO own)))
  case atStart => exact ⟨0, rfl, ⟨by omega⟩, ⟨own, fun _ _ => rfl, H0.out⟩, ⟨Only.refl _ _⟩⟩
  case round =>
    obtain ⟨k, rfl, ⟨hkm⟩, ⟨own', how', hSt⟩, ⟨hOn⟩⟩ := hrel
    have KM := Lib.hid hkm
    have SR := Lib.hid hSt
    have OW := Lib.hid how'
    have ON := Lib.hid hOn
    have hkl : k ≤ script.length := by omega
    clear hkm hSt how' hOn
    have BB := Lib.hid (HB0.out.trans (H0.out.own0 ON.out))
    by_cases hk : k < script.length
    · have hki : (k : Int) < (script.length : Int) := by omega
      have hk0 : (0 : Int) ≤ (k : Int) := by omega
      obtain ⟨ad, o, AB, cB, AK, cK, rfl, e1, e2, e3, e4⟩ := op_at HS.out k hk
      have HE := Lib.hid e1
      have HC := Lib.hid e4
      have cw : ∀ j v, [Value.int .i64 o.1, .int .i64 o.2.1, .int .i64 o.2.2.1, .int .i64 o.2.2.2.1, .slice AB o.2.2.2.2.1.length cB, .slice AK o.2.2.2.2.2.length cK][j]? = some v → wr.cell? (ad.add (k * 6 + j)) = some v := fun j v hv => (BB.out.cell (World.block_lt_of_cell? _ _ (e2 j v hv))).trans (e2 j v hv)
      have x0 : wr.cell? (ad.add (k * 6)) = _ := cw 0 _ rfl
      have x1 := cw 1 _ rfl
      rw [add_field ad (k * 6) 1 (by decide)] at x1
      have x2 := cw 2 _ rfl
      rw [add_field ad (k * 6) 2 (by decide)] at x2
      have x3 := cw 3 _ rfl
      rw [add_field ad (k * 6) 3 (by decide)] at x3
      have x4 := cw 4 _ rfl
      rw [add_field ad (k * 6) 4 (by decide)] at x4
      have x5 := cw 5 _ rfl
      rw [add_field ad (k * 6) 5 (by decide)] at x5
      clear cw e1 e2 e4
      have HOP := Lib.hid (HSO.out o (List.mem_of_getElem? HE.out))
      obtain ⟨WO, WE⟩ := work_ok HO.out HSO.out k
      have WOK := Lib.hid WO
      have WEP := Lib.hid (show (workV (n / 4) (script.take k) S).epoch + 1 < 18446744073709551616 by have := HEP.out; omega)
      have WS := Lib.hid (workV_succ (c := n / 4) (S := S) HE.out)
      obtain ⟨o1, o2, o3, o4, oB, oK⟩ := o
      simp only at x0 x1 x2 x3 x4 x5 e3
      clear WO WE
      obtain ⟨T, hT⟩ : ∃ T, T = workV (n / 4) (script.take k) S := ⟨_, rfl⟩
      rw [← hT] at SR WOK WEP WS
      have SV0 := Lib.hid (SR.out.keep (((Only.refl wr (fun _ => False)).alloc (.cells #[.int .i64 o1, .int .i64 o2, .int .i64 o3, .int .i64 o4, .slice AB oB.length cB, .slice AK oK.length cK] 52))) (fun _ _ h => h) 0)
      have OV0 := Lib.hid (ON.out.alloc (.cells #[.int .i64 o1, .int .i64 o2, .int .i64 o3, .int .i64 o4, .slice AB oB.length cB, .slice AK oK.length cK] 52))
      have HL := Lib.hid (show Blk (wr.alloc (.cells #[.int .i64 o1, .int .i64 o2, .int .i64 o3, .int .i64 o4, .slice AB oB.length cB, .slice AK oK.length cK] 52)) wr.heap.size 52 [.int .i64 o1, .int .i64 o2, .int .i64 o3, .int .i64 o4, .slice AB oB.length cB, .slice AK oK.length cK] from Blk.new _ _ _)
      have hzz := ON.out.size
      have HQ := Lib.hid (show ∀ b, b < w.heap.size → upd own' wr.heap.size 0 b = own b from fun b hb => by rw [upd_lt (by omega)]; exact OW.out b hb)
      clear hT
      have hcl : o1 = 2 ∨ o1 = 3 ∨ o1 = 4 ∨ (o1 = 1 ∨ o1 = 5 ∨ o1 = 6 ∨ o1 = 7 ∨ o1 = 8 ∨ o1 = 9) ∨ (o1 ≠ 1 ∧ o1 ≠ 2 ∧ o1 ≠ 3 ∧ o1 ≠ 4 ∧ o1 ≠ 5 ∧ o1 ≠ 6 ∧ o1 ≠ 7 ∧ o1 ≠ 8 ∧ o1 ≠ 9) := by omega
      rcases hcl with rfl | rfl | rfl | hcl | hcl
      · have WS2 := Lib.hid (WS.out.trans (show opS (n / 4) T (2, o2, o3, o4, oB, oK) = dropV T o2 from if_pos rfl))
        go_wp2_with (first
          | (go_at_call 15; refine (drop_c SV0.out o2).mono ?_; rintro e w2 ⟨rfl, s2, p2⟩; have S2 := Lib.hid s2; have O2 := Lib.hid p2; clear s2 p2)
          | fail)
        have hz2 := O2.out.size
        go_roundg (gk - 1)
        case measure => have := KM.out; omega
        case rel => exact ⟨k + 1, (by simp), ⟨by have := KM.out; omega⟩, ⟨by rw [WS2.out]; exact ⟨_, fun b hb => (upd_lt (Nat.lt_of_lt_of_le (Nat.lt_of_lt_of_le hb hzz) (Nat.le_of_lt HL.out.lt))).trans (HQ.out b hb), S2.out⟩⟩, ⟨OV0.out.step O2.out (fun b hb h => by rw [HQ.out b hb] at h; exact .inr h)⟩⟩
      · have WS2 := Lib.hid (WS.out.trans (show opS (n / 4) T (3, o2, o3, o4, oB, oK) = (comV T (n / 4)).1 by unfold opS; rw [if_neg (show ¬ (3 : Int) = 2 by decide), if_pos rfl]))
        go_wp2_with (first
          | (go_at_call 23; refine (com_c SV0.out WOK.out WEP.out).mono ?_; rintro e w2 ⟨rfl, s2, p2⟩; have S2 := Lib.hid s2; have O2 := Lib.hid p2; clear s2 p2)
          | fail)
        obtain ⟨own2, q1, q2⟩ := S2.out
        go_roundg (gk - 1)
        case measure => have := KM.out; omega
        case rel => exact ⟨k + 1, (by simp), ⟨by have := KM.out; omega⟩, ⟨own2, fun b hb => (q1 b (by have := HL.out.lt; omega)).trans (HQ.out b hb), by rw [WS2.out]; exact q2⟩, ⟨OV0.out.step O2.out (fun b hb h => by rw [HQ.out b hb] at h; exact h)⟩⟩
      · have WS2 := Lib.hid (WS.out.trans (show opS (n / 4) T (4, o2, o3, o4, oB, oK) = { T with now := T.kept } by unfold opS; rw [if_neg (show ¬ (4 : Int) = 2 by decide), if_neg (show ¬ (4 : Int) = 3 by decide), if_pos rfl]))
        go_wp2_with (first
          | (go_at_call 27; refine (rollback_c SV0.out).mono ?_; rintro e w2 ⟨rfl, s2, p2⟩; have S2 := Lib.hid s2; have O2 := Lib.hid p2; clear s2 p2)
          | fail)
        go_roundg (gk - 1)
        case measure => have := KM.out; omega
        case rel => exact ⟨k + 1, (by simp), ⟨by have := KM.out; omega⟩, ⟨by rw [WS2.out]; exact ⟨_, fun b hb => (upd_lt (Nat.lt_of_lt_of_le (Nat.lt_of_lt_of_le hb hzz) (Nat.le_of_lt HL.out.lt))).trans (HQ.out b hb), S2.out⟩⟩, ⟨OV0.out.step O2.out (fun b hb h => by rw [HQ.out b hb] at h; exact .inr h)⟩⟩
      · have WS2 := Lib.hid (WS.out.trans (show opS (n / 4) T (o1, o2, o3, o4, oB, oK) = T by unfold opS; rw [if_neg (by show ¬ o1 = 2; omega), if_neg (by show ¬ o1 = 3; omega), if_neg (by show ¬ o1 = 4; omega), if_pos hcl]))
        rcases hcl with rfl | rfl | rfl | rfl | rfl | rfl
        all_goals
          go_wp2_with fail
          go_roundg (gk - 1)
          case measure => have := KM.out; omega
          case rel => exact ⟨k + 1, (by simp), ⟨by have := KM.out; omega⟩, ⟨_, fun b hb => HQ.out b hb, by rw [WS2.out]; exact SV0.out⟩, ⟨OV0.out⟩⟩
      · obtain ⟨n1, n2, n3, n4, n5, n6, n7, n8, n9⟩ := hcl
        have WS2 := Lib.hid (WS.out.trans (show opS (n / 4) T (o1, o2, o3, o4, oB, oK) = putV T o2 oB by unfold opS; rw [if_neg n2, if_neg n3, if_neg n4, if_neg (by show ¬ (o1 = 1 ∨ o1 = 5 ∨ o1 = 6 ∨ o1 = 7 ∨ o1 = 8 ∨ o1 = 9); omega)]))
        have t1 : (o1 == 1) = false := by simpa using n1
        have t2 : (o1 == 2) = false := by simpa using n2
        have t3 : (o1 == 3) = false := by simpa using n3
        have t4 : (o1 == 4) = false := by simpa using n4
        have t5 : (o1 == 5) = false := by simpa using n5
        have t6 : (o1 == 6) = false := by simpa using n6
        have t7 : (o1 == 7) = false := by simpa using n7
        have t8 : (o1 == 8) = false := by simpa using n8
        have t9 : (o1 == 9) = false := by simpa using n9
        clear n1 n2 n3 n4 n5 n6 n7 n8 n9
        go_wp2_with fail
        have HCW := Lib.hid (Kd.C_below HC.out ((Only.of_below BB.out (fun _ => False)).alloc (.cells #[.int .i64 o1, .int .i64 o2, .int .i64 o3, .int .i64 o4, .slice AB oB.length cB, .slice AK oK.length cK] 52)).below_all)
        clear x0 x1 x2 x3 x4 x5 BB
        generalize (wr.alloc (.cells #[.int .i64 o1, .int .i64 o2, .int .i64 o3, .int .i64 o4, .slice AB oB.length cB, .slice AK oK.length cK] 52)) = v0 at *
        have L0 := Lib.hid HL.out.lt
        have OWNL := Lib.hid (show upd own' wr.heap.size 0 wr.heap.size = 0 from upd_ge (Nat.le_refl _))
        have NC := Lib.hid (own_c AB cB oB v0 HCW.out e3 HOP.out.2)
        have LT : Hid (∀ w', Only v0 w' (fun b => upd own' wr.heap.size 0 b = 3) → w'.cell? ⟨wr.heap.size, 1, none⟩ = some (.int .i64 o2) ∧ w'.cell? ⟨wr.heap.size, 4, none⟩ = some (.slice AB oB.length cB)) := Lib.hid fun w' ho => by
          have h1 := HL.out.keep ho (by rw [OWNL.out]; decide)
          exact ⟨h1.cell_at 1 _ rfl, h1.cell_at 4 _ rfl⟩
        have y1 := HL.out.cell_at 1 _ rfl
        have y4 := HL.out.cell_at 4 _ rfl
        generalize wr.heap.size = L at *
        have OD := Lib.hid ((Only.refl v0 (fun b => upd own' L 0 b = 3)).drew)
        have OB := Lib.hid (((Only.refl v0 (fun _ => False)).drew).below_all)
        have HCD := Lib.hid (Kd.C_below HCW.out (((Only.refl v0 (fun _ => False)).drew).below_all))
        go_region_held3 (fun w' => w'.cell? ⟨L, 1, none⟩ = some (.int .i64 o2) ∧ w'.cell? ⟨L, 4, none⟩ = some (.slice AB oB.length cB)) (exact LT.out _ (by first | exact OD.out | exact O3.out | exact O2.out)) (first
          | (go_at_call 13; refine (own_c AB cB oB _ HCD.out e3 HOP.out.2).mono ?_; rintro e w2 ⟨v, rfl, r2, b2⟩; obtain ⟨A2, c2', ev2⟩ := Kd.R_slice r2; subst ev2; have R2 := Lib.hid r2; have B2 := Lib.hid (OB.out.trans b2); have O2 := Lib.hid (Only.of_below B2.out (fun b => upd own' L 0 b = 3)); clear r2 b2)
          | (go_at_call 12; refine (put_c (SV0.out.below B2.out 0) o2 A2 c2' oB (Kd.R_reads' R2.out).2.2 (R_flat R2.out) HOP.out.2).mono ?_; rintro e w3 ⟨rfl, s3, p3⟩; have S3 := Lib.hid s3; have O3 := Lib.hid (O2.out.step p3 (fun b hb h => by rw [upd_lt hb] at h; exact h)); clear s3 p3)
          | fail)
        all_goals
          have hz3 := B2.out.size
          go_wp2_with fail
          go_roundg (gk - 1)
          case measure => have := KM.out; omega
          case rel => exact ⟨k + 1, (by simp), ⟨by have := KM.out; omega⟩, ⟨by rw [WS2.out]; exact ⟨_, fun b hb => (upd_lt (by have := L0.out; omega)).trans ((upd_lt (by have := L0.out; omega)).trans (HQ.out b hb)), S3.out⟩⟩, ⟨OV0.out.step O3.out (fun b hb h => by rw [HQ.out b hb] at h; exact .inr h)⟩⟩
    · have hki : ¬ (k : Int) < (script.length : Int) := by omega
      obtain rfl : k = script.length := by omega
      have SR2 := SR.out
      rw [List.take_length] at SR2
      go_wp2_with fail
      go_end0
      exact ⟨rfl, ⟨own', OW.out, SR2⟩, ON.out⟩
end Go.Proofs.Ytochnokfcfmgnaa.St
end

section
/- Seat F: Format on any disk, walked. -/
namespace Go.Proofs.Ytochnokfcfmgnaa.St
open Go Go.RowKit Go.Proofs.Ytochnokfcfmgnaa.Mem Go.Proofs.YtochnokfcfmgnaaW.PrintWords Go.Proofs.Ytochnokfcfmgnaa.Dk Go.Maps Go.ChangeMaps Go.Proofs.Ytochnokfcfmgnaa.Sh Go.Proofs.Ytochnokfcfmgnaa.Sp
set_option linter.unusedVariables false
set_option linter.unusedSimpArgs false
set_option maxRecDepth 100000
set_option maxHeartbeats 4000000
def S0 (x : DV) : SV := ⟨x, 0, 1, [], fun _ => none, fun _ => none⟩
/-- A new store. -/
def newV (x : DV) : SV := { S0 x with x := (((x.write 4 (zeros 32)).barrier).write 0 (rootB (S0 x))).barrier }
theorem St.c0 {w : World} {own : Nat → Nat} {base g s : Nat} {S : SV} (h : St w own base g s S) : w.cell? ⟨s, 0, none⟩ = some (.pointer (some ⟨g, 0, none⟩)) := by
  obtain ⟨_, _, _, h1, _⟩ := h.blk
  exact h1.cell_at 0 _ rfl
theorem write0_c {w : World} {own : Nat → Nat} {base g s n : Nat} {S : SV} (h : St w own base g s S) (hg : Dk.Good S.x n) (hlife : S.x.life = -1) (hpl : S.x.pend.length ≤ 1000000) (hn1 : 8 ≤ n) (hep : 0 ≤ S.epoch ∧ S.epoch < 18446744073709551616) (htb : ∀ t ∈ S.tabs, 0 ≤ t ∧ t < 4294967296) :
    Calls Try.prog 50 #[.pointer (some ⟨s, 0, none⟩), .int .i64 0] w fun e w' => e = .returned (.int .i64 0) ∧ (∃ own', (∀ k, k < w.heap.size → own' k = own k) ∧ St w' own' base g s { S with x := S.x.write 0 (rootB S) }) ∧ Only w w' (fun k => own k = 1) := by
  have h := write_c h hg hlife hpl hn1 hep htb 0 (by omega)
  simpa using h
theorem format_c {w : World} {own : Nat → Nat} {base g n : Nat} {x : DV} (hd : IsDisk w base (fun k => own k = 1) g x) (hlo : ∀ k, own k ≠ 0 → base ≤ k) (hb : base ≤ w.heap.size) (hg : Dk.Good x n) (hlife : x.life = -1) (hpl : x.pend.length ≤ 1000000) (hn1 : 12 ≤ n) (hn2 : n ≤ 400) :
    Calls Try.prog 28 #[.pointer (some ⟨g, 0, none⟩)] w fun e w' => ∃ s own', e = .returned (.tuple #[.pointer (some ⟨s, 0, none⟩), .int .i64 0]) ∧ (∀ k, k < w.heap.size → own' k = own k) ∧ St w' own' base g s (newV x) ∧ Only w w' (fun k => own k = 1) := by
  have HD := Lib.hid hd
  have HLO := Lib.hid hlo
  have HG := Lib.hid hg
  have HLF := Lib.hid hlife
  obtain ⟨c, hc⟩ : ∃ c, c = n / 4 := ⟨_, rfl⟩
  have hc3 : 3 ≤ c := by omega
  have hci3 : (3 : Int) ≤ (c : Int) := by omega
  have CO := Lib.hid (Pg.count_any hd hg)
  rw [← hc] at CO
  have hmm := @run_makeMap Try.prog
  clear hd hlo hg hlife hc
  go_enter Try.func28, Try.ntmps28
  go_wp2_with (first
    | (go_at_call 45; refine CO.out.mono ?_; rintro e wz ⟨rfl, hwz⟩; rw [← hwz]; clear hwz)
    | fail)
  obtain ⟨w1, hw1⟩ : ∃ w1, w1 = (((w.alloc (.map #[] 0)).alloc (.map #[] 0)).alloc (.cells #[.pointer (some ⟨g, 0, none⟩), .int .i64 0, .int .u64 1, .slice none 0 0, .map (some w.heap.size), .map (some (w.heap.size + 1)), .bool false] 76)) := ⟨_, rfl⟩
  have O1 : Only w w1 (fun k => own k = 1) := by rw [hw1]; exact (((Only.refl w (fun k => own k = 1)).alloc _).alloc _).alloc _
  have Z1 : w1.heap.size = w.heap.size + 3 := by rw [hw1]; simp
  have S1 : Blk w1 (w.heap.size + 1 + 1) 76 [.pointer (some ⟨g, 0, none⟩), .int .i64 0, .int .u64 1, .slice none 0 0, .map (some w.heap.size), .map (some (w.heap.size + 1)), .bool false] := by
    rw [hw1]
    have h := Blk.new ((w.alloc (.map #[] 0)).alloc (.map #[] 0)) 76 [.pointer (some ⟨g, 0, none⟩), .int .i64 0, .int .u64 1, .slice none 0 0, .map (some w.heap.size), .map (some (w.heap.size + 1)), .bool false]
    simpa using h
  have M1 : w1.heap[w.heap.size + 1]? = some (.map #[] 0) := by
    rw [hw1]
    have h := (MapKept.heap_alloc (w.alloc (.map #[] 0)) (.map #[] 0)).1
    rw [World.size_alloc] at h
    exact (Below.heap_alloc _ _ _ (by simp)).trans h
  have M0 : w1.heap[w.heap.size]? = some (.map #[] 0) := by
    rw [hw1]
    have h := (MapKept.heap_alloc w (.map #[] 0)).1
    exact (Below.heap_alloc _ _ _ (by simp; omega)).trans ((Below.heap_alloc _ _ _ (by simp)).trans h)
  have ST1 : St w1 (upd own w.heap.size 3) base g (w.heap.size + 1 + 1) (S0 x) := by
    have O0 : Only w w1 (fun _ => False) := by rw [hw1]; exact (((Only.refl w (fun _ => False)).alloc _).alloc _).alloc _
    refine ⟨Nat.le_trans hb O0.size, fun k hk => ?_, (HD.out.bound.keep O0 (fun _ _ h => h)).mono (fun k hk => by rw [upd_lt hk.2.2]; exact hk.1), w.heap.size, w.heap.size + 1, .slice none 0 0, S1, upd_ge (by omega), upd_ge (by omega), upd_ge (by omega), by omega, Row.nil _ _ _, MapAt.empty M0 _, MapAt.empty M1 _⟩
    by_cases hk2 : k < w.heap.size
    · rw [upd_lt hk2] at hk; exact HLO.out k hk
    · omega
  rw [← hw1]
  have HO1 := Lib.hid O1
  have HS1 := Lib.hid ST1
  have HOW := Lib.hid (show ∀ k, k < w.heap.size → upd own w.heap.size 3 k = own k from fun k hk => upd_lt hk)
  obtain ⟨s, hs⟩ : ∃ s, s = w.heap.size + 1 + 1 := ⟨_, rfl⟩
  rw [← hs] at HS1 ⊢
  clear O1 S1 M1 M0 ST1 hw1 CO hs hmm Z1
  obtain ⟨own1, hown1⟩ : ∃ own1, own1 = upd own w.heap.size 3 := ⟨_, rfl⟩
  rw [← hown1] at HS1 HOW
  clear hown1
  have hmk : ∀ u : World, (Instr.makeSlice 23 (.int .i64 32) (.int .i64 32)).run Try.prog u = .ok (.slice (some ⟨u.heap.size, 0, none⟩) 32 32) (u.alloc (.cells (icells .u8 (zeros 32)).toArray 5)) := fun u => make_zeros 32 (by omega) u
  have c0 := HS1.out.c0
  have Oz := Lib.hid (((Only.refl w1 (fun _ => False)).alloc (.cells (icells .u8 (zeros 32)).toArray 5)).drew)
  have Sd := Lib.hid (HS1.out.keep ((Only.refl w1 (fun _ => False)).drew) (fun _ _ h => h) 0)
  have Sz := Lib.hid (HS1.out.keep Oz.out (fun _ _ h => h) 0)
  have Cz := Lib.hid (C_of_blk (o := 0) (n := 32) (Blk.new w1 5 (icells .u8 (zeros 32))).drew (by decide) (by decide))
  have Cz' := Cz.out
  rw [List.drop_zero, List.take_of_length_le (by simp [zeros])] at Cz'
  have CZ := Lib.hid Cz'
  clear Cz Cz'
  have hab : Hid (w1.heap.size < (w1.alloc (.cells (icells .u8 (zeros 32)).toArray 5)).drew.heap.size) := Lib.hid (by show w1.heap.size < (w1.alloc (.cells (icells .u8 (zeros 32)).toArray 5)).heap.size; simp)
  have hne : Hid (¬ upd own1 w1.heap.size 0 w1.heap.size = 1) := Lib.hid (by rw [upd_ge (Nat.le_refl _)]; decide)
  have G2 := Lib.hid (HG.out.write (m := 4) (by omega) (b := zeros 32) (by decide) (by decide))
  have HGB := Lib.hid G2.out.barrier
  have HGW := Lib.hid (HGB.out.write (m := 0) (by omega) (rootB_len (S0 x)) (rootB_byte (S0 x)))
  have L1 := Lib.hid (show (x.write 4 (zeros 32)).life = -1 by show spent x.life = -1; rw [HLF.out]; rfl)
  have L2 := Lib.hid (show ((x.write 4 (zeros 32)).barrier).life = -1 by show spent (spent x.life) = -1; rw [HLF.out]; rfl)
  have L3 := Lib.hid (show (((x.write 4 (zeros 32)).barrier).write 0 (rootB (S0 x))).life = -1 by show spent (spent (spent x.life)) = -1; rw [HLF.out]; rfl)
  obtain ⟨own2, hown2⟩ : ∃ own2, own2 = upd own1 w1.heap.size 0 := ⟨_, rfl⟩
  have HOWN2 := Lib.hid hown2
  rw [← hown2] at Sd Sz hne
  clear hown2
  go_region_held3 (fun w' => w'.cell? ⟨s, 0, none⟩ = some (.pointer (some ⟨g, 0, none⟩))) (first | with_reducible exact S5.out.c0 | with_reducible exact S4.out.c0 | with_reducible exact S3.out.c0 | with_reducible exact S2.out.c0 | with_reducible exact Sz.out.c0 | with_reducible exact Sd.out.c0) (first
    | (go_at_call 48; refine (dk_writeS' Sz.out.disk HG.out Sz.out.hb (by show (x.pend.length + 1) * 32 ≤ _; omega) (by show x.life ≠ 0; rw [HLF.out]; decide) 4 (by omega) (by omega) w1.heap.size 0 32 (zeros 32) CZ.out hab.out hne.out).mono ?_; rintro e w2 ⟨rfl, d2, o2⟩; have O2 := Lib.hid o2; have S2 := Lib.hid (Sz.out.disk_step d2 o2); clear d2 o2)
    | (go_at_call 49; refine (dk_barrier S2.out.disk G2.out (by omega) (by show (x.write 4 (zeros 32)).life ≠ 0; rw [L1.out]; decide)).mono ?_; rintro e w3 ⟨rfl, d3, o3⟩; have O3 := Lib.hid o3; have S3 := Lib.hid (S2.out.disk_step (d3.mono (fun _ h => .inl h)) o3); clear d3 o3; clear S2)
    | (go_at_call 50; refine (write0_c S3.out HGB.out L2.out (by show ([] : List (Int × List Int)).length ≤ _; simp) (by omega) (by show (0 : Int) ≤ 1 ∧ (1 : Int) < _; omega) (fun t ht => by cases ht)).mono ?_; rintro e w4 ⟨rfl, ⟨own4, h4, s4⟩, o4⟩; have O4 := Lib.hid o4; have H4 := Lib.hid h4; have S4 := Lib.hid s4; clear o4 h4 s4)
    | (go_at_call 49; refine (dk_barrier S4.out.disk HGW.out (by omega) (by show (((x.write 4 (zeros 32)).barrier).write 0 (rootB (S0 x))).life ≠ 0; rw [L3.out]; decide)).mono ?_; rintro e w5 ⟨rfl, d5, o5⟩; have O5 := Lib.hid o5; have S5 := Lib.hid (S4.out.disk_step (d5.mono (fun _ h => .inl h)) o5); clear d5 o5)
    | fail)
  all_goals
    clear hmk
    go_wp2
    go_ret2
    have hz1 := HO1.out.size
    have hzz := Oz.out.size
    have hz2 := O2.out.size
    have hz3 := O3.out.size
    have hz4 := O4.out.size
    have hz5 := O5.out.size
    have q1 : ∀ b, b < w.heap.size → own2 b = own b := fun b hb => by rw [HOWN2.out, upd_lt (by omega)]; exact HOW.out b hb
    refine ⟨s, _, rfl, fun b hb => ?_, S5.out, ?_⟩
    · rw [upd_lt (by omega), H4.out b (by omega), upd_lt (by omega), upd_lt (by omega)]; exact q1 b hb
    · have q2 : ∀ b, b < w.heap.size → own4 b = own b := fun b hb => by rw [H4.out b (by omega), upd_lt (by omega), upd_lt (by omega)]; exact q1 b hb
      have X1 := HO1.out.step Oz.out (fun b hb h => h.elim)
      have X2 := X1.step O2.out (fun b hb h => by rw [q1 b hb] at h; exact h)
      have X3 := X2.step O3.out (fun b hb h => by rw [upd_lt (by omega), q1 b hb] at h; exact h)
      have X4 := X3.step O4.out (fun b hb h => by rw [upd_lt (by omega), upd_lt (by omega), q1 b hb] at h; exact h)
      exact X4.step O5.out (fun b hb h => by rw [q2 b hb] at h; exact h)
end Go.Proofs.Ytochnokfcfmgnaa.St
end

section
/- Seat F: grown, walked. -/
namespace Go.Proofs.Ytochnokfcfmgnaa.St
open Go Go.RowKit Go.Proofs.Ytochnokfcfmgnaa.Mem Go.Proofs.YtochnokfcfmgnaaW.PrintWords Go.Proofs.Ytochnokfcfmgnaa.Dk Go.Maps Go.ChangeMaps Go.Proofs.Ytochnokfcfmgnaa.Sh Go.Proofs.Ytochnokfcfmgnaa.Sp
set_option linter.unusedVariables false
set_option linter.unusedSimpArgs false
set_option maxRecDepth 100000
set_option maxHeartbeats 4000000
def sectorsOf (s : Int) : Nat := if s < 12 ∨ 400 < s then 80 else s.toNat
def freshX (n : Nat) : DV := ⟨zeros (n * 32), zeros (n * 32), [], -1⟩
noncomputable def endV (S : SV) (c : Nat) : SV := if (comV S c).2 = 0 then (comV S c).1 else { (comV S c).1 with now := (comV S c).1.kept }
noncomputable def grownV (n : Nat) (script : List OpV) : SV := endV (workV (n / 4) script (newV (freshX n))) (n / 4)
theorem newV_ok {n : Nat} {x : DV} (hg : Dk.Good x n) (hl : x.life = -1) (h1 : 12 ≤ n) (h2 : n ≤ 400) : Ok n (newV x) := by
  refine ⟨?_, ?_, rfl, h1, h2, .inl rfl, (by show (1 : Int) ≤ 1; omega), (fun t ht => by cases ht), (fun i p h => by cases h), (fun i p h => by cases h)⟩
  · exact (((hg.write (m := 4) (by omega) (b := zeros 32) (by decide) (by decide)).barrier).write (m := 0) (by omega) (rootB_len (S0 x)) (rootB_byte (S0 x))).barrier
  · show spent (spent (spent (spent x.life))) = -1
    rw [hl]; rfl
theorem com_err (S : SV) (c : Nat) : (comV S c).2 = 0 ∨ (comV S c).2 = 7 := by
  unfold comV
  split
  · exact .inl rfl
  · exact .inr rfl
theorem end_ok {n : Nat} {S : SV} (h : Ok n S) : Ok n (endV S (n / 4)) := by
  unfold endV
  split
  · exact com_ok h
  · exact (com_ok h).back
theorem end_epoch {n : Nat} {S : SV} (h : Ok n S) : (endV S (n / 4)).epoch ≤ S.epoch + 1 := by
  unfold endV
  split
  · exact com_epoch h
  · exact com_epoch h
theorem fresh_good (n : Nat) (h1 : 1 ≤ n) (h2 : n ≤ 8192) : Dk.Good (freshX n) n := good_new n h1 h2
theorem grown_ok {n : Nat} (h1 : 12 ≤ n) (h2 : n ≤ 400) {script : List OpV} (hs : ∀ o ∈ script, OpOk o) : Ok n (grownV n script) ∧ (grownV n script).epoch ≤ script.length + 2 := by
  have h0 := newV_ok (fresh_good n (by omega) (by omega)) rfl h1 h2
  obtain ⟨h3, h4⟩ := work_ok' h0 hs
  have h5 := end_epoch h3
  have h6 : (newV (freshX n)).epoch = 1 := rfl
  refine ⟨end_ok h3, ?_⟩
  unfold grownV
  omega
theorem sectorsOf_range (s : Int) : 12 ≤ sectorsOf s ∧ sectorsOf s ≤ 400 := by unfold sectorsOf; split <;> omega
theorem grown_c (s : Int) (A : Option Addr) (cc : Nat) (script : List OpV) (w : World) (hs : kOp.C w A script.length script) (hc : script.length ≤ cc) (hso : ∀ o ∈ script, OpOk o) (hsl : script.length ≤ 140737488351232) :
    Calls Try.prog 9 #[.int .i64 s, .slice A script.length cc] w fun e w' => ∃ g st own, e = .returned (.tuple #[.pointer (some ⟨g, 0, none⟩), .pointer (some ⟨st, 0, none⟩)]) ∧ St w' own w.heap.size g st (grownV (sectorsOf s) script) ∧ Below w.heap.size w w' := by
  have key : ∃ n : Nat, sectorsOf s = n ∧ 12 ≤ n ∧ n ≤ 400 := ⟨_, rfl, (sectorsOf_range s).1, (sectorsOf_range s).2⟩
  obtain ⟨n, hn, hn1, hn2⟩ := key
  rw [hn]
  have HNEW := Lib.hid (new_ok n w (by omega) (by omega))
  have hcase : (s < 12 ∧ (n : Int) = 80) ∨ (400 < s ∧ ¬ s < 12 ∧ (n : Int) = 80) ∨ (¬ s < 12 ∧ ¬ 400 < s ∧ s = n) := by
    unfold sectorsOf at hn
    split at hn <;> omega
  have HS := Lib.hid hs
  have HSO := Lib.hid hso
  have FG := Lib.hid (fresh_good n (by omega) (by omega))
  have N0 := Lib.hid (newV_ok FG.out rfl hn1 hn2)
  clear hn hs hso
  rcases hcase with ⟨h1, h4⟩ | ⟨h2, h1, h4⟩ | ⟨h1, h2, h4⟩
  all_goals first | subst h4 | (rw [h4] at HNEW; have HN4 := Lib.hid h4; clear h4)
  all_goals
    go_enter Try.func9, Try.ntmps9
    go_wp2_with (first
      | (go_at_call 31; refine HNEW.out.mono ?_; rintro e w1 ⟨g, rfl, d1, b1⟩; have D1 := Lib.hid d1; have B1 := Lib.hid b1; clear d1 b1)
      | fail)
    have hz1 := B1.out.size
    obtain ⟨own0, how0⟩ : ∃ own0, own0 = upd (fun _ => 0) w.heap.size 1 := ⟨_, rfl⟩
    have d1 : IsDisk w1 w.heap.size (fun k => own0 k = 1) g (freshX n) := D1.out.bound.mono (fun k hk => by rw [how0]; exact upd_ge hk.2.1)
    have hlo : ∀ k, own0 k ≠ 0 → w.heap.size ≤ k := fun k hk => by
      rcases Nat.lt_or_ge k w.heap.size with h | h
      · rw [how0, upd_lt h] at hk; exact absurd rfl hk
      · exact h
    have FC := Lib.hid (format_c d1 hlo hz1 FG.out rfl (by show ([] : List (Int × List Int)).length ≤ _; simp) hn1 hn2)
    have HLO := Lib.hid hlo
    clear d1 hlo how0
    go_wp2_with (first
      | (go_at_call 28; refine FC.out.mono ?_; rintro e w2 ⟨st, own2, rfl, h2', s2, o2⟩; have S2 := Lib.hid s2; have O2 := Lib.hid o2; clear h2' s2 o2)
      | fail)
    have B2 := Lib.hid (B1.out.trans (O2.out.below hz1 (fun k hk h => by have := HLO.out k (by rw [h]; decide); omega)))
    have WK := Lib.hid (work_c S2.out N0.out B2.out A cc script HS.out hc HSO.out (by show (1 : Int) + _ < _; omega) hsl)
    obtain ⟨V1, hV1⟩ : ∃ V1, V1 = workV (n / 4) script (newV (freshX n)) := ⟨_, rfl⟩
    obtain ⟨k1, k2⟩ := work_ok' N0.out HSO.out
    rw [← hV1] at WK k1 k2
    have K1 := Lib.hid k1
    have K2 := Lib.hid (show V1.epoch + 1 < 18446744073709551616 by have h6 : (newV (freshX n)).epoch = 1 := rfl; omega)
    have HV1 := Lib.hid hV1
    clear k1 k2 hV1
    rcases com_err V1 (n / 4) with herr | herr
    · have HE := Lib.hid herr
      have HG := Lib.hid (show grownV n script = (comV V1 (n / 4)).1 by unfold grownV endV; rw [← HV1.out, if_pos herr])
      clear herr
      go_wp2_with (first
        | (go_at_call 19; refine WK.out.mono ?_; rintro e w3 ⟨rfl, ⟨own3, hq3, s3⟩, o3⟩; have S3 := Lib.hid s3; have O3 := Lib.hid o3; clear s3 o3 hq3)
        | (go_at_call 23; refine (com_c S3.out K1.out K2.out).mono ?_; rintro e w4 ⟨rfl, ⟨own4, hq4, s4⟩, o4⟩; rw [HE.out]; have S4 := Lib.hid s4; have O4 := Lib.hid o4; clear s4 o4 hq4)
        | fail)
      go_ret2
      refine ⟨g, st, own4, rfl, by rw [HG.out]; exact S4.out, (B2.out.trans (S2.out.own0 O3.out)).trans (S3.out.own0 O4.out)⟩
    · have HE := Lib.hid herr
      have HG := Lib.hid (show grownV n script = { (comV V1 (n / 4)).1 with now := (comV V1 (n / 4)).1.kept } by unfold grownV endV; rw [← HV1.out, if_neg (by rw [herr]; decide)])
      clear herr
      go_wp2_with (first
        | (go_at_call 19; refine WK.out.mono ?_; rintro e w3 ⟨rfl, ⟨own3, hq3, s3⟩, o3⟩; have S3 := Lib.hid s3; have O3 := Lib.hid o3; clear s3 o3 hq3)
        | (go_at_call 23; refine (com_c S3.out K1.out K2.out).mono ?_; rintro e w4 ⟨rfl, ⟨own4, hq4, s4⟩, o4⟩; rw [HE.out]; have S4 := Lib.hid s4; have O4 := Lib.hid o4; clear s4 o4 hq4)
        | (go_at_call 27; refine (rollback_c S4.out).mono ?_; rintro e w5 ⟨rfl, s5, o5⟩; have S5 := Lib.hid s5; have O5 := Lib.hid o5; clear s5 o5)
        | fail)
      go_ret2
      refine ⟨g, st, _, rfl, by rw [HG.out]; exact S5.out, ((B2.out.trans (S2.out.own0 O3.out)).trans (S3.out.own0 O4.out)).trans (S4.out.own0 (O5.out.mono (fun k _ h => .inr h)))⟩
end Go.Proofs.Ytochnokfcfmgnaa.St
end

section
/- SameBytes: whether two rows of bytes are the same. -/
namespace Go.Proofs.Ytochnokfcfmgnaa.Dk
open Go.RowKit Go.Proofs.Ytochnokfcfmgnaa.Mem Go.Proofs.YtochnokfcfmgnaaW.PrintWords
set_option linter.unusedVariables false
theorem same_l0 (a b : List Int) (hab : a.length = b.length) (hl : a.length ≤ 140737488355328) (d : Nat) : ∀ (k i : Nat), i + d = a.length → d + 1 ≤ k → a.take i = b.take i → PShadowCrashes.quireref01_SameBytes.l0 k a b (i : Int) = some (decide (a = b)) := by
  induction d with
  | zero =>
    intro k i h hk he
    obtain ⟨k, rfl⟩ : ∃ m, k = m + 1 := ⟨k - 1, by omega⟩
    rw [PShadowCrashes.quireref01_SameBytes.l0, if_neg (by omega)]
    rw [List.take_of_length_le (by omega), List.take_of_length_le (by omega)] at he
    simp [he]
  | succ d ih =>
    intro k i h hk he
    obtain ⟨k, rfl⟩ : ∃ m, k = m + 1 := ⟨k - 1, by omega⟩
    rw [PShadowCrashes.quireref01_SameBytes.l0, if_pos (by omega), if_pos (by omega), if_pos (by omega)]
    have h1 : i < a.length := by omega
    have h2 : i < b.length := by omega
    have ha : rd a (i : Int) = a[i] := by simp [rd, h1]
    have hb : rd b (i : Int) = b[i] := by simp [rd, h2]
    rw [ha, hb]
    by_cases hx : a[i] = b[i]
    · rw [if_pos hx]
      have ew : wrap64 ((i : Int) + 1) = ((i + 1 : Nat) : Int) := by unfold wrap64; omega
      rw [ew]
      refine ih k (i + 1) (by omega) (by omega) ?_
      rw [List.take_succ_eq_append_getElem h1, List.take_succ_eq_append_getElem h2, he, hx]
    · rw [if_neg hx]
      have : ¬ a = b := fun e => hx (by subst e; rfl)
      simp [this]
theorem same_f (a b : List Int) (hl : a.length ≤ 140737488355328) : PShadowCrashes.quireref01_SameBytes.f (a.length + 1) a b = some (decide (a = b)) := by
  unfold PShadowCrashes.quireref01_SameBytes.f
  by_cases h : a.length = b.length
  · rw [if_pos (by omega)]
    exact same_l0 a b h hl a.length _ 0 (by omega) (by omega) rfl
  · rw [if_neg (by omega)]
    have : ¬ a = b := fun e => h (by rw [e])
    simp [this]
end Go.Proofs.Ytochnokfcfmgnaa.Dk
end

section
/- Seat F: ShadowPuts, walked. -/
namespace Go.Proofs.Ytochnokfcfmgnaa.St
open Go Go.RowKit Go.Proofs.Ytochnokfcfmgnaa.Mem Go.Proofs.YtochnokfcfmgnaaW.PrintWords Go.Proofs.Ytochnokfcfmgnaa.Dk Go.Maps Go.ChangeMaps Go.Proofs.Ytochnokfcfmgnaa.Sh Go.Proofs.Ytochnokfcfmgnaa.Sp
set_option linter.unusedVariables false
set_option linter.unusedSimpArgs false
set_option maxRecDepth 100000
set_option maxHeartbeats 4000000
/-- A script that is handed in. -/
structure Script (W : World) (A : Option Addr) (c : Nat) (l : List OpV) : Prop where
  cells : kOp.C W A l.length l
  cap : l.length ≤ c
  ok : ∀ o ∈ l, OpOk o
  size : l.length ≤ 140737488351232
theorem Row.own' {w w' : World} {own : Nat → Nat} {k : IntKind} {v : Value} {xs : List Int} (h : Row w (fun b => own b = 0) k v xs) {T : Nat → Prop} (ho : Only w w' T) (hT : ∀ b, own b = 0 → ¬ T b) (j : Nat) : Row w' (fun b => upd own w.heap.size j b = 0) k v xs :=
  (h.mono (ok' := fun b => own b = 0 ∧ b < w.heap.size) (fun b hb h => ⟨h, hb⟩)).keep ho (fun b hb => hT b hb.1) |>.mono (fun b _ hb => by rw [upd_lt hb.2]; exact hb.1)
theorem get_len {n : Nat} {S : SV} (hO : Ok n S) (i : Int) : (getV S i).1.length ≤ 116 := by
  unfold getV
  split
  · simp
  · cases h : S.now i.toNat with
    | none => simp
    | some p => exact (hO.now _ p h).2.2.1
end Go.Proofs.Ytochnokfcfmgnaa.St
end

section
/- Seat F: what is handed in, opened: scripts. -/
namespace Go.Proofs.Ytochnokfcfmgnaa.St
open Go.RowKit Go.Proofs.Ytochnokfcfmgnaa.Mem Go.Proofs.YtochnokfcfmgnaaW.PrintWords
set_option linter.unusedVariables false
abbrev Wf (k : IntKind) : Int → Prop := fun a => (Lit.int k a).wf = true
theorem wf_u8 {a : Int} (h : Wf .u8 a) : 0 ≤ a ∧ a < 256 := by
  have h : (Lit.int .u8 a).wf = true := h
  have h1 : IntKind.u8.min = 0 := by decide
  have h2 : IntKind.u8.max = 255 := by decide
  simp [Lit.wf, h1, h2] at h
  omega
abbrev GB : List Int → Prop := fun l => l.length * Try.prog.bytesOf 5 ≤ reachBytes ∧ ∀ a ∈ l, Wf .u8 a
abbrev GK : List Bool → Prop := fun l => l.length * Try.prog.bytesOf 4 ≤ reachBytes ∧ ∀ a ∈ l, True
abbrev G5 : List Int × List Bool → Prop := fun r => GB r.1 ∧ GK r.2
abbrev G4 : Int × List Int × List Bool → Prop := fun r => Wf .i64 r.1 ∧ G5 r.2
abbrev G3 : Int × Int × List Int × List Bool → Prop := fun r => Wf .i64 r.1 ∧ G4 r.2
abbrev G2 : Int × Int × Int × List Int × List Bool → Prop := fun r => Wf .i64 r.1 ∧ G3 r.2
def OpGood : OpV → Prop := fun r => Wf .i64 r.1 ∧ G2 r.2
theorem opens_op : Op.Opens Try.prog 52 kOp OpGood := by
  have i64 := Op.opens_int (P := Try.prog) (t := 3) (k := .i64) Try.underlying3 (by kernel_rfl)
  have u8 := Op.opens_int (P := Try.prog) (t := 5) (k := .u8) Try.underlying5 (by kernel_rfl)
  have bo := Op.opens_bool (P := Try.prog) (t := 4) Try.underlying4 (by kernel_rfl)
  have bs := Op.opens_slice (P := Try.prog) (t := 23) 5 Try.underlying23 (by kernel_rfl) u8 (of_decide_eq_true (by kernel_rfl))
  have ks := Op.opens_slice (P := Try.prog) (t := 50) 4 Try.underlying50 (by kernel_rfl) bo (of_decide_eq_true (by kernel_rfl))
  refine Op.opens_struct (good := OpGood) Try.underlying52 (by kernel_rfl) ?_
  refine Op.opensF_cons (g1 := Wf .i64) (g2 := G2) rfl i64 ?_ (by decide)
  refine Op.opensF_cons (g1 := Wf .i64) (g2 := G3) rfl i64 ?_ (by decide)
  refine Op.opensF_cons (g1 := Wf .i64) (g2 := G4) rfl i64 ?_ (by decide)
  refine Op.opensF_cons (g1 := Wf .i64) (g2 := G5) rfl i64 ?_ (by decide)
  refine Op.opensF_cons (g1 := GB) (g2 := GK) rfl bs ?_ (by decide)
  exact Op.opensF_one rfl ks
theorem script_of {W : World} {A : Option Addr} {c : Nat} {l : List OpV} (hC : kOp.C W A l.length l) (hc : l.length ≤ c) (hb : l.length * Try.prog.bytesOf 52 ≤ reachBytes) (hg : ∀ a ∈ l, OpGood a) : Script W A c l := by
  have e1 : Try.prog.bytesOf 52 = 80 := by kernel_rfl
  have e2 : Try.prog.bytesOf 5 = 1 := by kernel_rfl
  have e4 : reachBytes = 140737488351232 := by decide
  rw [e1, e4] at hb
  refine ⟨hC, hc, fun o ho => ⟨?_, ?_⟩, by omega⟩
  · intro y hy
    exact wf_u8 ((hg o ho).2.2.2.2.1.2 y hy)
  · have h1 := (hg o ho).2.2.2.2.1.1
    rw [e2, e4] at h1
    omega
end Go.Proofs.Ytochnokfcfmgnaa.St
end
