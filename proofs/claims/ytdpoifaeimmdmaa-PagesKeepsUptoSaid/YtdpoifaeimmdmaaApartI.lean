/- apartInts: lists that have memory of their own are told apart. -/
import Derived.Test.YtdpoifaeimmdmaaApartG
namespace Go.Proofs.Ytdpoifaeimmdmaa.ApG
open Go.RowKit Go.Proofs.Ytdpoifaeimmdmaa.Mem Go.Proofs.YtdpoifaeimmdmaaW.PrintWords Go.Proofs.Ytdpoifaeimmdmaa.Dk
set_option linter.unusedVariables false
set_option linter.unusedSimpArgs false
abbrev kI : Kd Int := Kd.int .i64
def fI (j : Nat) : Int := 1000000 + (j : Int)
theorem start_le (vs : List SL) : ∀ (k n : Nat), k ≤ n → start vs k ≤ start vs n
  | k, 0, h => by obtain rfl : k = 0 := by omega
                  exact Nat.le_refl _
  | k, n + 1, h => by
    by_cases e : k = n + 1
    · subst e; exact Nat.le_refl _
    · have := start_le vs k n (by omega)
      show start vs k ≤ start vs n + _ + 9
      omega
set_option maxHeartbeats 8000000 in
set_option maxRecDepth 100000 in
theorem apartInts_any (A : Option Addr) (cap base : Nat) (own0 : Nat → Nat) (vs : List SL) (w : World) (hS : Hid (slc.R 38 w base (fun q => own0 q = 0) (.slice A vs.length cap) vs)) (hP : Hid (Pieces kI 3 w base own0 vs)) (hb : base ≤ w.heap.size) (hn : vs.length * 24 ≤ 140737488355328) (hl : Hid (∀ p ∈ vs, (p.2.1 + 9) * 8 ≤ 140737488355328)) (hT : Hid (start vs vs.length ≤ 1152921504606846976)) :
    Calls Try.prog 43 #[.slice A vs.length cap] w fun e w' => e = .returned (.bool true) ∧ Only w w' (fun q => 2 ≤ own0 q) := by
  go_enter Try.func43, Try.ntmps43
  go_wp2_with fail
  go_loopg [3, 4, 5] vs.length (fun m nv gv iv wr => ∃ (i : Nat) (N : Int) (own : Nat → Nat) (us : List SL) (G : Option Addr) (nG cG : Nat), iv = .int .i64 i ∧ nv = .int .i64 N ∧ gv = .slice G nG cG ∧ Aside1 (i + m = vs.length ∧ nG = us.length ∧ us.length = i ∧ N = fI (start vs i) ∧ St kI 3 38 w wr base own0 own A cap vs G cG us (marks fI vs)))
  case atStart => exact ⟨0, 1000000, own0, [], none, 0, 0, rfl, rfl, rfl, ⟨Nat.zero_add _, rfl, rfl, rfl, fun _ _ => rfl, hS.out, hP.out, Kd.R_nil _ _ _ _ _, fun k p u _ h => by simp at h, Only.refl _ _⟩⟩
  case round =>
    obtain ⟨i, N, own2, us, G, nG, cG, rfl, rfl, rfl, hA⟩ := hrel
    obtain ⟨hm2, rfl, rfl, hN, hst⟩ := hA.out
    have HM2 := Lib.hid hm2
    have ST := Lib.hid hst
    have HN := Lib.hid hN
    have hsl : start vs us.length ≤ 1152921504606846976 := Nat.le_trans (start_le vs _ _ (by omega)) hT.out
    have hN0 : 0 ≤ N := by rw [hN]; unfold fI; omega
    have hN1 : N ≤ 1152921504607846976 := by rw [hN]; unfold fI; omega
    clear hA hm2 hst hS hP hN hsl
    obtain ⟨w2, hwo⟩ : ∃ w2, w2 = wr := ⟨_, rfl⟩
    subst hwo
    obtain ⟨g2, hgo⟩ : ∃ g2, g2 = gk := ⟨_, rfl⟩
    subst hgo
    have hwi : Hid (wrap64 ((us.length : Int) + 1) = ((us.length + 1 : Nat) : Int)) := Lib.hid (by have := HM2.out; unfold wrap64; omega)
    by_cases hi : us.length < vs.length
    · have hii : (us.length : Int) < (vs.length : Int) := by omega
      have hi0 : (0 : Int) ≤ (us.length : Int) := by omega
      obtain ⟨p, hp⟩ : ∃ p, vs[us.length]? = some p := ⟨_, List.getElem?_eq_getElem hi⟩
      obtain ⟨gs, rfl, hc, -, -, -, -⟩ := R_cell ST.out.spine us.length p hp
      obtain ⟨ys, hyl, hyr⟩ := ST.out.pieces us.length p hp
      have HPP := Lib.hid hp
      have HYL := Lib.hid hyl
      have HYR := Lib.hid hyr
      have hnp : (p.2.1 + 9) * 8 ≤ 140737488355328 := hl.out _ (List.mem_of_getElem? hp)
      clear hp hyl hyr
      obtain ⟨Ap, np, cp⟩ := p
      simp only at hc hnp
      go_wp2_with fail
      go_loopg [7] np (fun m jv wz => ∃ j : Nat, jv = .int .i64 j ∧ Aside1 (j + m = np ∧ kI.R 3 wz base (fun q => own2 q = us.length + 2) (.slice Ap np cp) ((marks fI vs us.length).take j ++ ys.drop j) ∧ Only w2 wz (fun q => own2 q = us.length + 2)))
      case atStart => exact ⟨0, rfl, ⟨Nat.zero_add _, HYR.out, Only.refl _ _⟩⟩
      case round =>
        obtain ⟨j, rfl, hA⟩ := hrel
        have HMj := Lib.hid hA.out.1
        have HRj := Lib.hid hA.out.2.1
        have HOj := Lib.hid hA.out.2.2
        have hjn : j ≤ np := by have := hA.out.1; omega
        clear hA
        have hwj : Hid (wrap64 ((j : Int) + 1) = ((j + 1 : Nat) : Int)) := Lib.hid (by unfold wrap64; omega)
        have hc' : wr.cell? ⟨gs, us.length, none⟩ = some (.slice Ap np cp) := (HOj.out.cell (World.block_lt_of_cell? _ _ hc) (fun h => by have h : own2 gs = us.length + 2 := h; have h9 : own2 gs = 0 := ST.out.spine.1 gs rfl; omega)).trans hc
        by_cases hj : j < np
        · have hji : (j : Int) < (np : Int) := by omega
          have hj0 : (0 : Int) ≤ (j : Int) := by omega
          have hyl : ys.length = np := HYL.out
          have hml := marks_len (f := fI) HPP.out
          obtain ⟨y, hy⟩ : ∃ y, ((marks fI vs us.length).take j ++ ys.drop j)[j]? = some y := ⟨_, List.getElem?_eq_getElem (by rw [List.length_append, List.length_take, List.length_drop, hml, hyl]; simp only; omega)⟩
          obtain ⟨g, rfl, hc1, hf1, hg1, -, -⟩ := R_cell HRj.out j y hy
          have hset := R_set_in HRj.out j (fI (start vs us.length + j)) (by rw [List.length_append, List.length_take, List.length_drop, hml, hyl]; simp only; omega)
          rw [marks_take_set HPP.out HYL.out hj] at hset
          have hval : fI (start vs us.length + j) = N + (j : Int) := by rw [HN.out]; unfold fI; omega
          rw [hval] at hset
          have HSET := Lib.hid hset
          have HG1 := Lib.hid hg1
          clear hset hy hyl hg1 hml hval
          go_wp2
          go_roundg (gk - 1)
          case measure => have := HMj.out; omega
          case rel => exact ⟨j + 1, (by first | exact congrArg (Value.int .i64) hwj.out | exact congrArg (Value.int .i64) (by omega)), ⟨by have := HMj.out; omega, HSET.out, HOj.out.setCell (p := ⟨g, j, none⟩) (fun _ => HG1.out) _⟩⟩
        · have hji : ¬ (j : Int) < (np : Int) := by omega
          obtain rfl : j = np := by omega
          go_wp2_with fail
          have SR := Lib.hid (show kI.R 3 wr base (fun q => own2 q = us.length + 2) (.slice Ap j cp) ((marks fI vs us.length).take j) from by have := HRj.out; rwa [List.drop_of_length_le (by rw [HYL.out]; exact Nat.le_refl _), List.append_nil] at this)
          have hml := marks_len (f := fI) HPP.out
          simp only at hml
          have ST3 := Lib.hid (ST.out.marked (p := (Ap, j, cp)) HPP.out HOj.out (by rw [List.length_take, hml]; simp only; omega) SR.out)
          have HML := Lib.hid hml
          clear HRj HOj HMj hml
          have hw2s : w.heap.size ≤ wr.heap.size := ST3.out.only.size
          have info3 : (Try.prog.info? 3).map (fun i => (i.zero, i.size, i.bytes)) = some (some (.int .i64 0), 1, 8) := by kernel_rfl
          go_loopg [6, 8] 9 (fun m gv jv wz => ∃ (j' : Nat) (own : Nat → Nat) (B : Option Addr) (nb cb : Nat), jv = .int .i64 j' ∧ gv = .slice B nb cb ∧ Aside1 (j' + m = 9 ∧ nb = j + j' ∧ kI.R 3 wz base (fun q => own q = us.length + 2) (.slice B nb cb) ((marks fI vs us.length).take (j + j')) ∧ kI.R 3 wz base (fun q => own q = us.length + 2) (.slice Ap j cp) ((marks fI vs us.length).take j) ∧ St kI 3 38 w wz base own0 own (some ⟨gs, 0, none⟩) cap vs G cG us (marks fI vs)))
          case atStart => exact ⟨0, own2, Ap, j, cp, rfl, rfl, ⟨Nat.zero_add _, rfl, SR.out, SR.out, ST3.out⟩⟩
          case round =>
            obtain ⟨j', own4, B, nb, cb, rfl, rfl, hA⟩ := hrel
            obtain ⟨hm9, hnb, hrb, hrp, hst4⟩ := hA.out
            subst hnb
            have HM9 := Lib.hid hm9
            have HRB := Lib.hid hrb
            have HRP := Lib.hid hrp
            have ST4 := Lib.hid hst4
            clear hA hm9 hrb hrp hst4 ST3 SR
            have hw9 : Hid (wrap64 ((j' : Int) + 1) = ((j' + 1 : Nat) : Int)) := Lib.hid (by have := HM9.out; unfold wrap64; omega)
            have hbw : base ≤ wr.heap.size := Nat.le_trans hb ST4.out.only.size
            obtain ⟨gs', hgs', hc'', -, -, -, -⟩ := R_cell ST4.out.spine us.length (Ap, j, cp) HPP.out
            injection hgs' with hgs'
            injection hgs' with hgs'
            subst hgs'
            clear hc' hc
            by_cases hj9' : j' < 9
            · have hji9 : (j' : Int) < 9 := by omega
              have hlj : (((marks fI vs us.length).take (j + j')).length + 1) * 8 ≤ 140737488355328 := by rw [List.length_take, HML.out]; omega
              go_wp2_with (first
                | ((with_reducible refine gate_builtin (b := .append) (xs := #[.tmp 43, .tmp 53]) rfl ?_); at_builtin; refine append_keeps (enc := Value.int .i64) (h1 := fun _ => rfl) rfl (.tmp 43) (.tmp 53) 38 3 (.int .i64 0) 8 rfl Try.underlying38 info3 rfl (by omega) wr base (.slice B (j + j') cb) ((marks fI vs us.length).take (j + j')) (N + (j : Int) + (j' : Int)) (fun q => own4 q = us.length + 2) rfl rfl HRB.out hbw hlj ?_; intro v1 w1 hr1 ho1 hk1; obtain ⟨B1, c1, ev1⟩ := Kd.R_slice hr1; obtain ⟨n1, hn1⟩ : ∃ n1, n1 = ((marks fI vs us.length).take (j + j') ++ [N + (j : Int) + (j' : Int)]).length := ⟨_, rfl⟩; rw [← hn1] at ev1; subst ev1; have HN1 := Lib.hid hn1; have HR1 := Lib.hid hr1; have HO1 := Lib.hid ho1; have HK1 := Lib.hid hk1; clear hn1 hr1 ho1 hk1)
                | fail)
              have HLT := Lib.hid (show ((marks fI vs us.length).take (j + j')).length = j + j' by rw [List.length_take, HML.out]; omega)
              have hval : fI (start vs us.length + (j + j')) = N + (j : Int) + (j' : Int) := by rw [HN.out]; unfold fI; omega
              have hsn := marks_snoc (f := fI) (j := j + j') HPP.out (by simp only; omega)
              rw [hval] at hsn
              have ST5 := Lib.hid (ST4.out.append (p := (Ap, j, cp)) HPP.out HO1.out (fun q hq => HRB.out.1 q hq) (fun ys hy hr => HK1.out _ _ _ ys hr (by rw [HLT.out, hy]; exact Nat.le_add_right _ _)))
              have HR5 := Lib.hid (show kI.R 3 w1 base _ (.slice B1 n1 c1) ((marks fI vs us.length).take (j + (j' + 1))) from by have h9 := R_own_mod HR1.out; rw [hsn] at h9; exact h9)
              have HP5 := Lib.hid (R_own_mod (B := wr.heap.size) (Kd.R_mono (HK1.out _ _ _ _ HRP.out (by rw [HLT.out, List.length_take, HML.out]; omega)) (fun q hq => .inl hq)))
              have HN2 := Lib.hid (show n1 = j + (j' + 1) by rw [HN1.out, List.length_append, HLT.out, List.length_singleton, Nat.add_assoc])
              clear hval hsn
              go_roundg (gk - 1)
              case measure => have := HM9.out; omega
              case rel => exact ⟨j' + 1, _, B1, n1, c1, (by first | exact congrArg (Value.int .i64) hw9.out | exact congrArg (Value.int .i64) (by omega)), rfl, ⟨by have := HM9.out; omega, HN2.out, HR5.out, HP5.out, ST5.out⟩⟩
            · have hji9 : ¬ (j' : Int) < 9 := by omega
              obtain rfl : j' = 9 := by have := HM9.out; omega
              have info38 : (Try.prog.info? 38).map (fun i => (i.zero, i.size, i.bytes)) = some (some (.slice none 0 0), 1, 24) := by kernel_rfl
              have hw4s : w.heap.size ≤ wr.heap.size := ST4.out.only.size
              have hlu : (us.length + 1) * 24 ≤ 140737488355328 := by omega
              go_wp2_with (first
                | ((with_reducible refine gate_builtin (b := .append) (xs := #[.tmp 55, .tmp 57]) rfl ?_); at_builtin; refine Kd.R_append slc (w0 := wr) w.heap.size rfl (.tmp 55) (.tmp 57) 49 38 (.slice none 0 0) 24 rfl Try.underlying49 info38 rfl (by decide) (by omega) (.slice G us.length cG) us ((B, j + 9, cb) : SL) [.slice B (j + 9) cb] (fun q => own4 q = 1 ∨ wr.heap.size ≤ q) (fun _ => False) rfl rfl rfl (fun _ h => h.elim) (fun k hk => .inr hk) (Kd.R_mono ST4.out.grown (fun q hq => .inl hq)) (Below.refl _ _) hw4s hlu ?_; intro v1 w1 hr1 hb1 hg1 ha1; obtain ⟨G1, c1, ev1⟩ := Kd.R_slice hr1; rw [show (us ++ [((B, j + 9, cb) : SL)]).length = us.length + 1 by simp] at ev1; subst ev1; have HR1 := Lib.hid hr1; have HG1 := Lib.hid hg1; clear hr1 hb1 hg1 ha1)
                | fail)
              have ST6 := Lib.hid (ST4.out.snoc (u := (B, j + 9, cb)) (p := (Ap, j, cp)) HPP.out rfl HML.out (by have h9 := HRB.out; rw [List.take_of_length_le (by rw [HML.out]; exact Nat.le_refl _)] at h9; exact h9) HRP.out HG1.out HR1.out)
              have HN2 := Lib.hid (show N + ((j + 9 : Nat) : Int) = fI (start vs (us.length + 1)) by rw [start_succ HPP.out, HN.out]; unfold fI; simp only; omega)
              go_roundg (g2 - 1)
              case measure => have := HM2.out; omega
              case rel => exact ⟨us.length + 1, N + ((j + 9 : Nat) : Int), _, us ++ [(B, j + 9, cb)], G1, us.length + 1, c1, (by first | exact congrArg (Value.int .i64) hwi.out | exact congrArg (Value.int .i64) (by omega)), (by first | rfl | exact congrArg (Value.int .i64) (by omega)), rfl, ⟨by have := HM2.out; omega, by simp, by simp, HN2.out, ST6.out⟩⟩
    · have hii : ¬ (us.length : Int) < (vs.length : Int) := by omega
      have HEQ := Lib.hid (show us.length = vs.length by have := HM2.out; omega)
      clear hN0 hN1
      go_wp2_with fail
      go_loopg [3, 9] us.length (fun m nv iv wz => ∃ (i : Nat) (N : Int), iv = .int .i64 i ∧ nv = .int .i64 N ∧ wz = w2 ∧ Aside1 (i + m = us.length ∧ N = fI (start vs i)))
      case atStart => exact ⟨0, 1000000, rfl, rfl, rfl, ⟨Nat.zero_add _, rfl⟩⟩
      case round =>
        obtain ⟨i, N2, rfl, rfl, rfl, hA⟩ := hrel
        have HMi := Lib.hid hA.out.1
        have HN2 := Lib.hid hA.out.2
        have hsl : start vs i ≤ 1152921504606846976 := Nat.le_trans (start_le vs _ _ (by have := hA.out.1; have := HEQ.out; omega)) hT.out
        have hN0 : 0 ≤ N2 := by rw [HN2.out]; unfold fI; omega
        have hN1 : N2 ≤ 1152921504607846976 := by rw [HN2.out]; unfold fI; omega
        clear hA hsl
        obtain ⟨g3, hgo⟩ : ∃ g3, g3 = gk := ⟨_, rfl⟩
        subst hgo
        have hwi' : Hid (wrap64 ((i : Int) + 1) = ((i + 1 : Nat) : Int)) := Lib.hid (by have := HMi.out; have := HEQ.out; unfold wrap64; omega)
        by_cases hiu : i < us.length
        · have hiu' : (i : Int) < (us.length : Int) := by omega
          have hi0 : (0 : Int) ≤ (i : Int) := by omega
          have hiv : i < vs.length := by have := HEQ.out; omega
          have hiv' : (i : Int) < (vs.length : Int) := by omega
          obtain ⟨p, hp⟩ : ∃ p, vs[i]? = some p := ⟨_, List.getElem?_eq_getElem hiv⟩
          obtain ⟨u, hu⟩ : ∃ u, us[i]? = some u := ⟨_, List.getElem?_eq_getElem hiu⟩
          obtain ⟨hul, hml, hur, hpr⟩ := ST.out.ups i p u hp hu
          obtain ⟨gg, rfl, hc, -, -, -, -⟩ := R_cell ST.out.grown i u hu
          obtain ⟨gs, rfl, hc2, -, -, -, -⟩ := R_cell ST.out.spine i p hp
          have hnl := hl.out p (List.mem_of_getElem? hp)
          have HUR := Lib.hid hur
          have HPR := Lib.hid hpr
          have HP := Lib.hid hp
          have HML := Lib.hid hml
          obtain ⟨Au, nu, cu⟩ := u
          obtain ⟨Ap, np, cp⟩ := p
          simp only at hc hc2 hul HUR HPR hnl HML
          subst hul
          clear hp hu hur hpr hiv hml
          go_wp2_with fail
          go_loopg [10] (np + 9) (fun m jv wz => ∃ j : Nat, jv = .int .i64 j ∧ wz = wr ∧ Aside1 (j + m = np + 9))
          case atStart => exact ⟨0, rfl, rfl, ⟨Nat.zero_add _⟩⟩
          case round =>
            obtain ⟨j, rfl, rfl, hA⟩ := hrel
            have HMj := Lib.hid hA.out
            clear hA
            have hwj : Hid (wrap64 ((j : Int) + 1) = ((j + 1 : Nat) : Int)) := Lib.hid (by have := HMj.out; unfold wrap64; omega)
            by_cases hj : j < np + 9
            · have hji : (j : Int) < ((np + 9 : Nat) : Int) := by omega
              have hj0 : (0 : Int) ≤ (j : Int) := by omega
              have hval : fI (start vs i + j) = N2 + (j : Int) := by rw [HN2.out]; unfold fI; omega
              have hmg := marks_get (f := fI) HP.out (show j < np + 9 from hj)
              rw [hval] at hmg
              obtain ⟨gu, rfl, hcu0, -, -, -, -⟩ := R_cell HUR.out j (N2 + (j : Int)) hmg
              have hcu : wr.cell? ⟨gu, j, none⟩ = some (.int .i64 (N2 + (j : Int))) := hcu0
              clear hcu0
              by_cases hjp : j < np
              · have hjp' : (j : Int) < (np : Int) := by omega
                have hmg2 : ((marks fI vs i).take np)[j]? = some (N2 + (j : Int)) := by rw [List.getElem?_take, if_pos hjp]; exact hmg
                obtain ⟨gp, rfl, hcp0, -, -, -, -⟩ := R_cell HPR.out j (N2 + (j : Int)) hmg2
                have hcp : wr.cell? ⟨gp, j, none⟩ = some (.int .i64 (N2 + (j : Int))) := hcp0
                clear hcp0 hmg hmg2 hval
                go_wp2_with fail
                go_roundg (gk - 1)
                case measure => have := HMj.out; omega
                case rel => exact ⟨j + 1, (by first | exact congrArg (Value.int .i64) hwj.out | exact congrArg (Value.int .i64) (by omega)), rfl, ⟨by have := HMj.out; omega⟩⟩
              · have hjp' : ¬ (j : Int) < (np : Int) := by omega
                clear hmg hval
                go_wp2_with fail
                go_roundg (gk - 1)
                case measure => have := HMj.out; omega
                case rel => exact ⟨j + 1, (by first | exact congrArg (Value.int .i64) hwj.out | exact congrArg (Value.int .i64) (by omega)), rfl, ⟨by have := HMj.out; omega⟩⟩
            · have hji : ¬ (j : Int) < ((np + 9 : Nat) : Int) := by omega
              have HN3 := Lib.hid (show N2 + ((np + 9 : Nat) : Int) = fI (start vs (i + 1)) by rw [start_succ HP.out, HN2.out]; unfold fI; simp only; omega)
              go_wp2_with fail
              go_roundg (g3 - 1)
              case measure => have := HMi.out; omega
              case rel => exact ⟨i + 1, N2 + ((np + 9 : Nat) : Int), (by first | exact congrArg (Value.int .i64) hwi'.out | exact congrArg (Value.int .i64) (by omega)), (by first | rfl | exact congrArg (Value.int .i64) (by omega)), rfl, ⟨by have := HMi.out; omega, HN3.out⟩⟩
        · have hiu' : ¬ (i : Int) < (us.length : Int) := by omega
          go_wp2
          go_ret
          exact ⟨rfl, ST.out.only⟩
end Go.Proofs.Ytdpoifaeimmdmaa.ApG
