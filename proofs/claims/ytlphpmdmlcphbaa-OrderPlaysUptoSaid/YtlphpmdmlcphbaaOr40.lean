/- apartTexts: lists that have memory of their own are told apart. -/
import Derived.Test.YtlphpmdmlcphbaaOr40a
namespace Go.Proofs.Ytlphpmdmlcphbaa.ApG
open Go.RowKit Go.Proofs.Ytlphpmdmlcphbaa.Mem Go.Proofs.YtlphpmdmlcphbaaW.PrintWords Go.Proofs.Ytlphpmdmlcphbaa.Dk
set_option linter.unusedVariables false
set_option linter.unusedSimpArgs false
abbrev kT : Kd ByteArray := Kd.string
def fT (j : Nat) : ByteArray := tx (j : Int)
theorem start_le (vs : List SL) : ∀ (k n : Nat), k ≤ n → start vs k ≤ start vs n
  | k, 0, h => by obtain rfl : k = 0 := by omega
                  exact Nat.le_refl _
  | k, n + 1, h => by
    by_cases e : k = n + 1
    · subst e; exact Nat.le_refl _
    · have := start_le vs k n (by omega)
      show start vs k ≤ start vs n + _ + 9
      omega
set_option maxHeartbeats 8000000 in
set_option maxRecDepth 100000 in
theorem apartTexts_any (A : Option Addr) (cap base : Nat) (own0 : Nat → Nat) (vs : List SL) (w : World) (hS : Hid (slc.R 23 w base (fun q => own0 q = 0) (.slice A vs.length cap) vs)) (hP : Hid (Pieces kT 9 w base own0 vs)) (hb : base ≤ w.heap.size) (hn : vs.length * 24 ≤ 140737488355328) (hl : Hid (∀ p ∈ vs, (p.2.1 + 9) * 16 ≤ 140737488355328)) (hT : Hid (start vs vs.length ≤ 1152921504606846976)) :
    Calls Try.prog 35 #[.slice A vs.length cap] w fun e w' => e = .returned (.bool true) ∧ Only w w' (fun q => 2 ≤ own0 q) := by
  go_enter Try.func35, Try.ntmps35
  go_wp2_with fail
  go_loopg [3, 4, 5] vs.length (fun m nv gv iv wr => ∃ (i : Nat) (N : Int) (own : Nat → Nat) (us : List SL) (G : Option Addr) (nG cG : Nat), iv = .int .i64 i ∧ nv = .int .i64 N ∧ gv = .slice G nG cG ∧ Aside1 (i + m = vs.length ∧ nG = us.length ∧ us.length = i ∧ N = ((start vs i : Nat) : Int) ∧ St kT 9 23 w wr base own0 own A cap vs G cG us (marks fT vs)))
  case atStart => exact ⟨0, 0, own0, [], none, 0, 0, rfl, rfl, rfl, ⟨Nat.zero_add _, rfl, rfl, rfl, fun _ _ => rfl, hS.out, hP.out, Kd.R_nil _ _ _ _ _, fun k p u _ h => by simp at h, Only.refl _ _⟩⟩
  case round =>
    obtain ⟨i, N, own2, us, G, nG, cG, rfl, rfl, rfl, hA⟩ := hrel
    obtain ⟨hm2, rfl, rfl, hN, hst⟩ := hA.out
    have HM2 := Lib.hid hm2
    have ST := Lib.hid hst
    have HN := Lib.hid hN
    have hsl : start vs us.length ≤ 1152921504606846976 := Nat.le_trans (start_le vs _ _ (by omega)) hT.out
    have hN0 : 0 ≤ N := by rw [hN]; omega
    have hN1 : N ≤ 1152921504607846976 := by rw [hN]; omega
    clear hA hm2 hst hS hP hN hsl
    obtain ⟨w2, hwo⟩ : ∃ w2, w2 = wr := ⟨_, rfl⟩
    subst hwo
    obtain ⟨g2, hgo⟩ : ∃ g2, g2 = gk := ⟨_, rfl⟩
    subst hgo
    have hwi : Hid (wrap64 ((us.length : Int) + 1) = ((us.length + 1 : Nat) : Int)) := Lib.hid (by have := HM2.out; unfold wrap64; omega)
    by_cases hi : us.length < vs.length
    · have hii : (us.length : Int) < (vs.length : Int) := by omega
      have hi0 : (0 : Int) ≤ (us.length : Int) := by omega
      obtain ⟨p, hp⟩ : ∃ p, vs[us.length]? = some p := ⟨_, List.getElem?_eq_getElem hi⟩
      obtain ⟨gs, rfl, hc, -, -, -, -⟩ := R_cell ST.out.spine us.length p hp
      obtain ⟨ys, hyl, hyr⟩ := ST.out.pieces us.length p hp
      have HPP := Lib.hid hp
      have HYL := Lib.hid hyl
      have HYR := Lib.hid hyr
      have hnp : (p.2.1 + 9) * 16 ≤ 140737488355328 := hl.out _ (List.mem_of_getElem? hp)
      clear hp hyl hyr
      obtain ⟨Ap, np, cp⟩ := p
      simp only at hc hnp
      go_wp2_with fail
      go_loopg [7] np (fun m jv wz => ∃ j : Nat, jv = .int .i64 j ∧ Aside1 (j + m = np ∧ kT.R 9 wz base (fun q => own2 q = us.length + 2) (.slice Ap np cp) ((marks fT vs us.length).take j ++ ys.drop j) ∧ Only w2 wz (fun q => own2 q = us.length + 2)))
      case atStart => exact ⟨0, rfl, ⟨Nat.zero_add _, HYR.out, Only.refl _ _⟩⟩
      case round =>
        obtain ⟨j, rfl, hA⟩ := hrel
        have HMj := Lib.hid hA.out.1
        have HRj := Lib.hid hA.out.2.1
        have HOj := Lib.hid hA.out.2.2
        have hjn : j ≤ np := by have := hA.out.1; omega
        clear hA
        have hwj : Hid (wrap64 ((j : Int) + 1) = ((j + 1 : Nat) : Int)) := Lib.hid (by unfold wrap64; omega)
        have hc' : wr.cell? ⟨gs, us.length, none⟩ = some (.slice Ap np cp) := (HOj.out.cell (World.block_lt_of_cell? _ _ hc) (fun h => by have h : own2 gs = us.length + 2 := h; have h9 : own2 gs = 0 := ST.out.spine.1 gs rfl; omega)).trans hc
        by_cases hj : j < np
        · have hji : (j : Int) < (np : Int) := by omega
          have hj0 : (0 : Int) ≤ (j : Int) := by omega
          have hyl : ys.length = np := HYL.out
          have hml := marks_len (f := fT) HPP.out
          obtain ⟨y, hy⟩ : ∃ y, ((marks fT vs us.length).take j ++ ys.drop j)[j]? = some y := ⟨_, List.getElem?_eq_getElem (by rw [List.length_append, List.length_take, List.length_drop, hml, hyl]; simp only; omega)⟩
          obtain ⟨g, rfl, hc1, hf1, hg1, -, -⟩ := R_cell HRj.out j y hy
          have hval : fT (start vs us.length + j) = tx (N + (j : Int)) := by unfold fT; rw [HN.out]; congr 1; try omega
          have hnj : N + (j : Int) ≤ 1152921504607846976 := by have h9 := start_succ (vs := vs) HPP.out; have h8 := start_le vs (us.length + 1) vs.length (by omega); have h7 := hT.out; rw [HN.out]; simp only at h9; omega
          have hnj0 : 0 ≤ N + (j : Int) := by omega
          have TC := Lib.hid (fun W => text_c (N + (j : Int)) hnj0 hnj W)
          have hwr : IntKind.i64.wrap (N + (j : Int)) = N + (j : Int) := IntWalk.i64_in _ ⟨by omega, by omega⟩
          have HVAL := Lib.hid hval
          have HG1 := Lib.hid hg1
          have HC1 := Lib.hid hc1
          have HF1 := Lib.hid hf1
          have HGL := Lib.hid (World.block_lt_of_cell? _ _ hc1)
          have NE := Lib.hid (show gs ≠ g from fun e => by have h : own2 gs = 0 := ST.out.spine.1 gs rfl; have h2 : own2 g = us.length + 2 := hg1; rw [e] at h; omega)
          have HLEN : Hid (j < ((marks fT vs us.length).take j ++ ys.drop j).length) := Lib.hid (by rw [List.length_append, List.length_take, List.length_drop, hml, hyl]; simp only; omega)
          clear hy hyl hg1 hml hval
          go_wp2_with fail
          go_region_held3 (fun w' => w'.cell? ⟨gs, us.length, none⟩ = some (.slice (some ⟨g, 0, none⟩) np cp)) (go_keep) (first
            | (go_at_call 43; refine (TC.out _).mono ?_; rintro e w5 ⟨rfl, b5⟩; have B5 := Lib.hid b5; have hc5 := (b5.cell (World.block_lt_of_cell? _ _ hc')).trans hc'; have hd5 := (b5.cell (p := ⟨g, j, none⟩) HGL.out).trans HC1.out; have hf5 := (b5.frozen (p := ⟨g, j, none⟩) HGL.out).trans HF1.out; have hs5 : ∀ u, (w5.setCell ⟨g, j, none⟩ u).cell? ⟨gs, us.length, none⟩ = some (.slice (some ⟨g, 0, none⟩) np cp) := (fun u => (World.cell?_setCell_far w5 ⟨g, j, none⟩ ⟨gs, us.length, none⟩ u (Ne.symm NE.out)).trans hc5); clear b5))
          all_goals
            have hset := R_set_in (Kd.R_below (Kd.R_drew HRj.out) B5.out) j (fT (start vs us.length + j)) HLEN.out
            rw [marks_take_set HPP.out HYL.out hj, HVAL.out] at hset
            have HSET := Lib.hid hset
            have HO5 := Lib.hid (((HOj.out.drew.step (Only.of_below B5.out (fun _ => False)) (fun _ _ h => h.elim)).setCell (p := ⟨g, j, none⟩) (fun _ => HG1.out) (.string (tx (N + (j : Int))))))
            clear hset hc5 hd5 hf5 hs5 hc' hc1 hf1
            generalize w5.setCell ⟨g, j, none⟩ (.string (tx (N + (j : Int)))) = w6 at *
          all_goals
            go_wp2_with fail
            go_roundg (gk - 1)
            case measure => have := HMj.out; omega
            case rel => exact ⟨j + 1, (by first | exact congrArg (Value.int .i64) hwj.out | exact congrArg (Value.int .i64) (by omega)), ⟨by have := HMj.out; omega, HSET.out, HO5.out⟩⟩
        · have hji : ¬ (j : Int) < (np : Int) := by omega
          obtain rfl : j = np := by omega
          go_wp2_with fail
          have SR := Lib.hid (show kT.R 9 wr base (fun q => own2 q = us.length + 2) (.slice Ap j cp) ((marks fT vs us.length).take j) from by have := HRj.out; rwa [List.drop_of_length_le (by rw [HYL.out]; exact Nat.le_refl _), List.append_nil] at this)
          have hml := marks_len (f := fT) HPP.out
          simp only at hml
          have ST3 := Lib.hid (ST.out.marked (p := (Ap, j, cp)) HPP.out HOj.out (by rw [List.length_take, hml]; simp only; omega) SR.out)
          have HML := Lib.hid hml
          clear HRj HOj HMj hml
          have hw2s : w.heap.size ≤ wr.heap.size := ST3.out.only.size
          have info3 : (Try.prog.info? 9).map (fun i => (i.zero, i.size, i.bytes)) = some (some (.string ByteArray.empty), 1, 16) := by kernel_rfl
          go_loopg [6, 8] 9 (fun m gv jv wz => ∃ (j' : Nat) (own : Nat → Nat) (B : Option Addr) (nb cb : Nat), jv = .int .i64 j' ∧ gv = .slice B nb cb ∧ Aside1 (j' + m = 9 ∧ nb = j + j' ∧ kT.R 9 wz base (fun q => own q = us.length + 2) (.slice B nb cb) ((marks fT vs us.length).take (j + j')) ∧ kT.R 9 wz base (fun q => own q = us.length + 2) (.slice Ap j cp) ((marks fT vs us.length).take j) ∧ St kT 9 23 w wz base own0 own (some ⟨gs, 0, none⟩) cap vs G cG us (marks fT vs)))
          case atStart => exact ⟨0, own2, Ap, j, cp, rfl, rfl, ⟨Nat.zero_add _, rfl, SR.out, SR.out, ST3.out⟩⟩
          case round =>
            obtain ⟨j', own4, B, nb, cb, rfl, rfl, hA⟩ := hrel
            obtain ⟨hm9, hnb, hrb, hrp, hst4⟩ := hA.out
            subst hnb
            have HM9 := Lib.hid hm9
            have HRB := Lib.hid hrb
            have HRP := Lib.hid hrp
            have ST4 := Lib.hid hst4
            clear hA hm9 hrb hrp hst4 ST3 SR
            have hw9 : Hid (wrap64 ((j' : Int) + 1) = ((j' + 1 : Nat) : Int)) := Lib.hid (by have := HM9.out; unfold wrap64; omega)
            have hbw : base ≤ wr.heap.size := Nat.le_trans hb ST4.out.only.size
            obtain ⟨gs', hgs', hc'', -, -, -, -⟩ := R_cell ST4.out.spine us.length (Ap, j, cp) HPP.out
            injection hgs' with hgs'
            injection hgs' with hgs'
            subst hgs'
            clear hc' hc
            by_cases hj9' : j' < 9
            · have hji9 : (j' : Int) < 9 := by omega
              have hlj : (((marks fT vs us.length).take (j + j')).length + 1) * 16 ≤ 140737488355328 := by rw [List.length_take, HML.out]; omega
              have hnj : N + (j : Int) + (j' : Int) ≤ 1152921504607846976 := by have h9 := start_succ (vs := vs) HPP.out; have h8 := start_le vs (us.length + 1) vs.length (by omega); have h7 := hT.out; rw [HN.out]; simp only at h9; omega
              have hnj0 : 0 ≤ N + (j : Int) + (j' : Int) := by omega
              have TC := Lib.hid (text_c (N + (j : Int) + (j' : Int)) hnj0 hnj wr)
              go_wp2_with (first
                | (go_at_call 43; with_reducible refine TC.out.mono ?_; rintro e w5 ⟨rfl, b5⟩; have B5 := Lib.hid b5; have ST4b := Lib.hid (ST4.out.below b5); have HRBb := Lib.hid (Kd.R_below HRB.out b5); have HRPb := Lib.hid (Kd.R_below HRP.out b5); have hbw5 : base ≤ w5.heap.size := Nat.le_trans hbw b5.size; clear b5)
                | ((with_reducible refine gate_builtin (b := .append) (xs := #[.tmp 44, .tmp 55]) rfl ?_); at_builtin; refine append_keeps (enc := Value.string) (h1 := fun _ => rfl) rfl (.tmp 44) (.tmp 55) 23 9 (.string ByteArray.empty) 16 rfl Try.underlying23 info3 rfl (by omega) w5 base (.slice B (j + j') cb) ((marks fT vs us.length).take (j + j')) (tx (N + (j : Int) + (j' : Int))) (fun q => own4 q = us.length + 2) rfl rfl HRBb.out hbw5 hlj ?_; intro v1 w1 hr1 ho1 hk1; obtain ⟨B1, c1, ev1⟩ := Kd.R_slice hr1; obtain ⟨n1, hn1⟩ : ∃ n1, n1 = ((marks fT vs us.length).take (j + j') ++ [tx (N + (j : Int) + (j' : Int))]).length := ⟨_, rfl⟩; rw [← hn1] at ev1; subst ev1; have HN1 := Lib.hid hn1; have HR1 := Lib.hid hr1; have HO1 := Lib.hid ho1; have HK1 := Lib.hid hk1; clear hn1 hr1 ho1 hk1)
                | fail)
              have HLT := Lib.hid (show ((marks fT vs us.length).take (j + j')).length = j + j' by rw [List.length_take, HML.out]; omega)
              have hval : fT (start vs us.length + (j + j')) = tx (N + (j : Int) + (j' : Int)) := by unfold fT; rw [HN.out]; congr 1; try omega
              have hsn := marks_snoc (f := fT) (j := j + j') HPP.out (by simp only; omega)
              rw [hval] at hsn
              have ST5 := Lib.hid (ST4b.out.append (p := (Ap, j, cp)) HPP.out HO1.out (fun q hq => HRB.out.1 q hq) (fun ys hy hr => HK1.out _ _ _ ys hr (by rw [HLT.out, hy]; exact Nat.le_add_right _ _)))
              have HR5 := Lib.hid (show kT.R 9 w1 base _ (.slice B1 n1 c1) ((marks fT vs us.length).take (j + (j' + 1))) from by have h9 := R_own_mod HR1.out; rw [hsn] at h9; exact h9)
              have HP5 := Lib.hid (R_own_mod (B := w5.heap.size) (Kd.R_mono (HK1.out _ _ _ _ HRPb.out (by rw [HLT.out, List.length_take, HML.out]; omega)) (fun q hq => .inl hq)))
              have HN2 := Lib.hid (show n1 = j + (j' + 1) by rw [HN1.out, List.length_append, HLT.out, List.length_singleton, Nat.add_assoc])
              clear hval hsn
              go_roundg (gk - 1)
              case measure => have := HM9.out; omega
              case rel => exact ⟨j' + 1, _, B1, n1, c1, (by first | exact congrArg (Value.int .i64) hw9.out | exact congrArg (Value.int .i64) (by omega)), rfl, ⟨by have := HM9.out; omega, HN2.out, HR5.out, HP5.out, ST5.out⟩⟩
            · have hji9 : ¬ (j' : Int) < 9 := by omega
              obtain rfl : j' = 9 := by have := HM9.out; omega
              have info38 : (Try.prog.info? 23).map (fun i => (i.zero, i.size, i.bytes)) = some (some (.slice none 0 0), 1, 24) := by kernel_rfl
              have hw4s : w.heap.size ≤ wr.heap.size := ST4.out.only.size
              have hlu : (us.length + 1) * 24 ≤ 140737488355328 := by omega
              go_wp2_with (first
                | ((with_reducible refine gate_builtin (b := .append) (xs := #[.tmp 57, .tmp 59]) rfl ?_); at_builtin; refine Kd.R_append slc (w0 := wr) w.heap.size rfl (.tmp 57) (.tmp 59) 37 23 (.slice none 0 0) 24 rfl Try.underlying37 info38 rfl (by decide) (by omega) (.slice G us.length cG) us ((B, j + 9, cb) : SL) [.slice B (j + 9) cb] (fun q => own4 q = 1 ∨ wr.heap.size ≤ q) (fun _ => False) rfl rfl rfl (fun _ h => h.elim) (fun k hk => .inr hk) (Kd.R_mono ST4.out.grown (fun q hq => .inl hq)) (Below.refl _ _) hw4s hlu ?_; intro v1 w1 hr1 hb1 hg1 ha1; obtain ⟨G1, c1, ev1⟩ := Kd.R_slice hr1; rw [show (us ++ [((B, j + 9, cb) : SL)]).length = us.length + 1 by simp] at ev1; subst ev1; have HR1 := Lib.hid hr1; have HG1 := Lib.hid hg1; clear hr1 hb1 hg1 ha1)
                | fail)
              have ST6 := Lib.hid (ST4.out.snoc (u := (B, j + 9, cb)) (p := (Ap, j, cp)) HPP.out rfl HML.out (by have h9 := HRB.out; rw [List.take_of_length_le (by rw [HML.out]; exact Nat.le_refl _)] at h9; exact h9) HRP.out HG1.out HR1.out)
              have HN2 := Lib.hid (show N + ((j + 9 : Nat) : Int) = ((start vs (us.length + 1) : Nat) : Int) by rw [start_succ HPP.out, HN.out]; simp only; omega)
              go_roundg (g2 - 1)
              case measure => have := HM2.out; omega
              case rel => exact ⟨us.length + 1, N + ((j + 9 : Nat) : Int), _, us ++ [(B, j + 9, cb)], G1, us.length + 1, c1, (by first | exact congrArg (Value.int .i64) hwi.out | exact congrArg (Value.int .i64) (by omega)), (by first | rfl | exact congrArg (Value.int .i64) (by omega)), rfl, ⟨by have := HM2.out; omega, by simp, by simp, HN2.out, ST6.out⟩⟩
    · have hii : ¬ (us.length : Int) < (vs.length : Int) := by omega
      have HEQ := Lib.hid (show us.length = vs.length by have := HM2.out; omega)
      clear hN0 hN1
      go_wp2_with fail
      go_loopg [3, 9] us.length (fun m nv iv wz => ∃ (i : Nat) (N : Int), iv = .int .i64 i ∧ nv = .int .i64 N ∧ Aside1 (i + m = us.length ∧ N = ((start vs i : Nat) : Int) ∧ Below w2.heap.size w2 wz))
      case atStart => exact ⟨0, 0, rfl, rfl, ⟨Nat.zero_add _, rfl, Below.refl _ _⟩⟩
      case round =>
        obtain ⟨i, N2, rfl, rfl, hA⟩ := hrel
        have HMi := Lib.hid hA.out.1
        have HN2 := Lib.hid hA.out.2.1
        have HBW := Lib.hid hA.out.2.2
        have hsl : start vs i ≤ 1152921504606846976 := Nat.le_trans (start_le vs _ _ (by have := hA.out.1; have := HEQ.out; omega)) hT.out
        have hN0 : 0 ≤ N2 := by rw [HN2.out]; omega
        have hN1 : N2 ≤ 1152921504607846976 := by rw [HN2.out]; omega
        clear hA hsl
        obtain ⟨g3, hgo⟩ : ∃ g3, g3 = gk := ⟨_, rfl⟩
        subst hgo
        have hwi' : Hid (wrap64 ((i : Int) + 1) = ((i + 1 : Nat) : Int)) := Lib.hid (by have := HMi.out; have := HEQ.out; unfold wrap64; omega)
        by_cases hiu : i < us.length
        · have hiu' : (i : Int) < (us.length : Int) := by omega
          have hi0 : (0 : Int) ≤ (i : Int) := by omega
          have hiv : i < vs.length := by have := HEQ.out; omega
          have hiv' : (i : Int) < (vs.length : Int) := by omega
          obtain ⟨p, hp⟩ : ∃ p, vs[i]? = some p := ⟨_, List.getElem?_eq_getElem hiv⟩
          obtain ⟨u, hu⟩ : ∃ u, us[i]? = some u := ⟨_, List.getElem?_eq_getElem hiu⟩
          obtain ⟨wi, hwi0⟩ : ∃ wi, wi = wr := ⟨_, rfl⟩
          subst hwi0
          obtain ⟨hul, hml, hur, hpr⟩ := ST.out.ups i p u hp hu
          obtain ⟨gg, rfl, hc, -, -, -, -⟩ := R_cell (Kd.R_below ST.out.grown HBW.out) i u hu
          obtain ⟨gs, rfl, hc2, -, -, -, -⟩ := R_cell (Kd.R_below ST.out.spine HBW.out) i p hp
          have hur := Kd.R_below hur HBW.out
          have hpr := Kd.R_below hpr HBW.out
          have hnl := hl.out p (List.mem_of_getElem? hp)
          have HUR := Lib.hid hur
          have HPR := Lib.hid hpr
          have HP := Lib.hid hp
          have HML := Lib.hid hml
          obtain ⟨Au, nu, cu⟩ := u
          obtain ⟨Ap, np, cp⟩ := p
          simp only at hc hc2 hul HUR HPR hnl HML
          subst hul
          clear hp hu hur hpr hiv hml
          go_wp2_with fail
          have HC := Lib.hid hc
          have HC2 := Lib.hid hc2
          go_loopg [10] (np + 9) (fun m jv wz => ∃ j : Nat, jv = .int .i64 j ∧ Aside1 (j + m = np + 9 ∧ Below wi.heap.size wi wz))
          case atStart => exact ⟨0, rfl, ⟨Nat.zero_add _, Below.refl _ _⟩⟩
          case round =>
            obtain ⟨j, rfl, hA⟩ := hrel
            have HMj := Lib.hid hA.out.1
            have HBj := Lib.hid hA.out.2
            clear hA hc hc2
            have hc := (HBj.out.cell (World.block_lt_of_cell? _ _ HC.out)).trans HC.out
            have hc2 := (HBj.out.cell (World.block_lt_of_cell? _ _ HC2.out)).trans HC2.out
            have hwj : Hid (wrap64 ((j : Int) + 1) = ((j + 1 : Nat) : Int)) := Lib.hid (by have := HMj.out; unfold wrap64; omega)
            by_cases hj : j < np + 9
            · have hji : (j : Int) < ((np + 9 : Nat) : Int) := by omega
              have hj0 : (0 : Int) ≤ (j : Int) := by omega
              have hnj : N2 + (j : Int) ≤ 1152921504607846976 := by have h9 := start_succ (vs := vs) HP.out; have h8 := start_le vs (i + 1) vs.length (by have := HEQ.out; omega); have h7 := hT.out; rw [HN2.out]; simp only at h9; omega
              have hnj0 : 0 ≤ N2 + (j : Int) := by omega
              have TC := Lib.hid (fun W => text_c (N2 + (j : Int)) hnj0 hnj W)
              have hwr : IntKind.i64.wrap (N2 + (j : Int)) = N2 + (j : Int) := IntWalk.i64_in _ ⟨by omega, by omega⟩
              have hval : fT (start vs i + j) = tx (N2 + (j : Int)) := by unfold fT; rw [HN2.out]; congr 1; try omega
              have hmg := marks_get (f := fT) HP.out (show j < np + 9 from hj)
              rw [hval] at hmg
              obtain ⟨gu, rfl, hcu0, -, -, -, -⟩ := R_cell (Kd.R_below HUR.out HBj.out) j (tx (N2 + (j : Int))) hmg
              have hcu : wr.cell? ⟨gu, j, none⟩ = some (.string (tx (N2 + (j : Int)))) := hcu0
              have hbb : ((tx (N2 + (j : Int))).toList == (tx (N2 + (j : Int))).toList) = true := by simp
              clear hcu0
              obtain ⟨T, hTT⟩ : ∃ T, T = tx (N2 + (j : Int)) := ⟨_, rfl⟩
              rw [← hTT] at hcu hbb hmg TC
              clear hval
              have HLT := Lib.hid (show ∀ (p : Addr) (v : Value), wr.cell? p = some v → ∀ w', Below wr.heap.size wr w' → w'.cell? p = some v from fun p v h w' hb => (hb.cell (World.block_lt_of_cell? _ _ h)).trans h)
              by_cases hjp : j < np
              · have hjp' : (j : Int) < (np : Int) := by omega
                have hmg2 : ((marks fT vs i).take np)[j]? = some T := by rw [List.getElem?_take, if_pos hjp]; exact hmg
                obtain ⟨gp, rfl, hcp0, -, -, -, -⟩ := R_cell (Kd.R_below HPR.out HBj.out) j T hmg2
                have hcp : wr.cell? ⟨gp, j, none⟩ = some (.string T) := hcp0
                clear hcp0 hmg hmg2 hTT
                go_wp2_with fail
                have BD := Lib.hid (((Only.refl wr (fun _ => False)).drew).below_all)
                have HLT4 := Lib.hid (show ∀ w', Below wr.heap.size wr w' → w'.cell? ⟨gg, i, none⟩ = some (.slice (some ⟨gu, 0, none⟩) (np + 9) cu) ∧ w'.cell? ⟨gs, i, none⟩ = some (.slice (some ⟨gp, 0, none⟩) np cp) ∧ w'.cell? ⟨gu, j, none⟩ = some (.string T) ∧ w'.cell? ⟨gp, j, none⟩ = some (.string T) from fun w' hb => ⟨HLT.out _ _ hc _ hb, HLT.out _ _ hc2 _ hb, HLT.out _ _ hcu _ hb, HLT.out _ _ hcp _ hb⟩)
                go_region_held3 (fun w' => w'.cell? ⟨gg, i, none⟩ = some (.slice (some ⟨gu, 0, none⟩) (np + 9) cu) ∧ w'.cell? ⟨gs, i, none⟩ = some (.slice (some ⟨gp, 0, none⟩) np cp) ∧ w'.cell? ⟨gu, j, none⟩ = some (.string T) ∧ w'.cell? ⟨gp, j, none⟩ = some (.string T)) (exact HLT4.out _ (by first | exact BD.out | exact B5.out | exact B6.out)) (first
                  | (go_at_call 43; refine (TC.out _).mono ?_; rintro e w5 ⟨rfl, b5⟩; have B5 := Lib.hid (BD.out.trans (b5.mono BD.out.size)); clear b5)
                  | (go_at_call 43; refine (TC.out _).mono ?_; rintro e w6 ⟨rfl, b6⟩; have B6 := Lib.hid (B5.out.trans (b6.mono B5.out.size)); clear b6))
                all_goals
                  go_wp2_with fail
                  go_roundg (gk - 1)
                  case measure => have := HMj.out; omega
                  case rel => exact ⟨j + 1, (by first | exact congrArg (Value.int .i64) hwj.out | exact congrArg (Value.int .i64) (by omega)), ⟨by have := HMj.out; omega, HBj.out.trans (B6.out.mono HBj.out.size)⟩⟩
              · have hjp' : ¬ (j : Int) < (np : Int) := by omega
                have hgd1 : decide ((j : Int) < (np : Int)) = false := decide_eq_false hjp'
                have hgd2 : decide (j < np) = false := decide_eq_false hjp
                clear hmg hTT
                go_wp2_with fail
                have BD := Lib.hid (((Only.refl wr (fun _ => False)).drew).below_all)
                have HLT4 := Lib.hid (show ∀ w', Below wr.heap.size wr w' → w'.cell? ⟨gg, i, none⟩ = some (.slice (some ⟨gu, 0, none⟩) (np + 9) cu) ∧ w'.cell? ⟨gs, i, none⟩ = some (.slice Ap np cp) ∧ w'.cell? ⟨gu, j, none⟩ = some (.string T) from fun w' hb => ⟨HLT.out _ _ hc _ hb, HLT.out _ _ hc2 _ hb, HLT.out _ _ hcu _ hb⟩)
                refine wp_region_held_drew (S := fun w' => w'.cell? ⟨gg, i, none⟩ = some (.slice (some ⟨gu, 0, none⟩) (np + 9) cu) ∧ w'.cell? ⟨gs, i, none⟩ = some (.slice Ap np cp) ∧ w'.cell? ⟨gu, j, none⟩ = some (.string T)) (by kernel_rfl) ?_ (fun hHeld => ?_)
                · exact HLT4.out _ BD.out
                refine wpAnyH_take (i := 0) (v := ?_) rfl (by kernel_rfl) (by kernel_rfl) (by kernel_rfl) (fun _ _ _ h => h) (Or.inl ⟨by rfl, ?_⟩) (by assumption) ?_
                rotate_left 1
                · intro w hSw; (try dsimp only at hSw); (try simp only [List.getElem_toArray, List.getElem_cons_succ, List.getElem_cons_zero]); go_simp; (try with_reducible rfl)
                try simp only [List.getElem_toArray, List.getElem_cons_succ, List.getElem_cons_zero, Act.put, List.setIfInBounds_toArray, List.set_cons_zero, List.set_cons_succ]
                refine wpAnyH_take (i := 1) (v := ?_) rfl (by kernel_rfl) (by kernel_rfl) (by kernel_rfl) (fun _ _ _ h => h) (Or.inl ⟨by rfl, ?_⟩) (by assumption) ?_
                rotate_left 1
                · intro w hSw; (try dsimp only at hSw); (try simp only [List.getElem_toArray, List.getElem_cons_succ, List.getElem_cons_zero]); go_simp; (try with_reducible rfl)
                try simp only [List.getElem_toArray, List.getElem_cons_succ, List.getElem_cons_zero, Act.put, List.setIfInBounds_toArray, List.set_cons_zero, List.set_cons_succ]
                refine wpAnyH_take (i := 2) (v := ?_) rfl (by kernel_rfl) (by kernel_rfl) (by kernel_rfl) (fun _ _ _ h => h) (Or.inl ⟨by rfl, ?_⟩) (by assumption) ?_
                rotate_left 1
                · intro w hSw; (try dsimp only at hSw); (try simp only [List.getElem_toArray, List.getElem_cons_succ, List.getElem_cons_zero]); go_simp; (try with_reducible rfl)
                try simp only [List.getElem_toArray, List.getElem_cons_succ, List.getElem_cons_zero, Act.put, List.setIfInBounds_toArray, List.set_cons_zero, List.set_cons_succ]
                refine wpAnyH_take (i := 3) (v := ?_) rfl (by kernel_rfl) (by kernel_rfl) (by kernel_rfl) (fun _ _ _ h => h) (Or.inl ⟨by rfl, ?_⟩) (by assumption) ?_
                rotate_left 1
                · intro w hSw; (try dsimp only at hSw); (try simp only [List.getElem_toArray, List.getElem_cons_succ, List.getElem_cons_zero]); go_simp; (try with_reducible rfl)
                try simp only [List.getElem_toArray, List.getElem_cons_succ, List.getElem_cons_zero, Act.put, List.setIfInBounds_toArray, List.set_cons_zero, List.set_cons_succ]
                refine wpAnyH_take (i := 4) (v := ?_) rfl (by kernel_rfl) (by kernel_rfl) (by kernel_rfl) (fun _ _ _ h => h) (Or.inl ⟨by rfl, ?_⟩) (by assumption) ?_
                rotate_left 1
                · intro w hSw; (try dsimp only at hSw); (try simp only [List.getElem_toArray, List.getElem_cons_succ, List.getElem_cons_zero]); go_simp; (try with_reducible rfl)
                try simp only [List.getElem_toArray, List.getElem_cons_succ, List.getElem_cons_zero, Act.put, List.setIfInBounds_toArray, List.set_cons_zero, List.set_cons_succ]
                refine wpAnyH_take (i := 5) (v := ?_) rfl (by kernel_rfl) (by kernel_rfl) (by kernel_rfl) (fun _ _ _ h => h) (Or.inl ⟨by rfl, ?_⟩) (by assumption) ?_
                rotate_left 1
                · intro w hSw; (try dsimp only at hSw); (try simp only [List.getElem_toArray, List.getElem_cons_succ, List.getElem_cons_zero]); go_simp; (try with_reducible rfl)
                try simp only [List.getElem_toArray, List.getElem_cons_succ, List.getElem_cons_zero, Act.put, List.setIfInBounds_toArray, List.set_cons_zero, List.set_cons_succ]
                refine wpAnyH_take (i := 6) (v := ?_) rfl (by kernel_rfl) (by kernel_rfl) (by kernel_rfl) (fun _ _ _ h => h) (Or.inl ⟨by rfl, ?_⟩) (by assumption) ?_
                rotate_left 1
                · intro w hSw; (try dsimp only at hSw); (try simp only [List.getElem_toArray, List.getElem_cons_succ, List.getElem_cons_zero]); go_simp; (try with_reducible rfl)
                try simp only [List.getElem_toArray, List.getElem_cons_succ, List.getElem_cons_zero, Act.put, List.setIfInBounds_toArray, List.set_cons_zero, List.set_cons_succ]
                refine wpAnyH_take (i := 7) (v := ?_) rfl (by kernel_rfl) (by kernel_rfl) (by kernel_rfl) (fun _ _ _ h => h) (Or.inl ⟨by rfl, ?_⟩) (by assumption) ?_
                rotate_left 1
                · intro w hSw; (try dsimp only at hSw); (try simp only [List.getElem_toArray, List.getElem_cons_succ, List.getElem_cons_zero]); go_simp; (try with_reducible rfl)
                try simp only [List.getElem_toArray, List.getElem_cons_succ, List.getElem_cons_zero, Act.put, List.setIfInBounds_toArray, List.set_cons_zero, List.set_cons_succ]
                refine wpAnyH_take (i := 8) (v := ?_) rfl (by kernel_rfl) (by kernel_rfl) (by kernel_rfl) (fun _ _ _ h => h) (Or.inl ⟨by rfl, ?_⟩) (by assumption) ?_
                rotate_left 1
                · intro w hSw; (try dsimp only at hSw); (try simp only [List.getElem_toArray, List.getElem_cons_succ, List.getElem_cons_zero]); go_simp; (try with_reducible rfl)
                try simp only [List.getElem_toArray, List.getElem_cons_succ, List.getElem_cons_zero, Act.put, List.setIfInBounds_toArray, List.set_cons_zero, List.set_cons_succ]
                refine wpAnyH_take (i := 9) (v := ?_) rfl (by kernel_rfl) (by kernel_rfl) (by kernel_rfl) (fun _ _ _ h => h) (Or.inl ⟨by rfl, ?_⟩) (by assumption) ?_
                rotate_left 1
                · intro w hSw; (try dsimp only at hSw); (try simp only [List.getElem_toArray, List.getElem_cons_succ, List.getElem_cons_zero]); go_simp; (try with_reducible rfl)
                try simp only [List.getElem_toArray, List.getElem_cons_succ, List.getElem_cons_zero, Act.put, List.setIfInBounds_toArray, List.set_cons_zero, List.set_cons_succ]
                refine wpAnyH_ready (rs := [10]) (by kernel_rfl) (by simp) ?_
                refine AllReadyH.cons rfl (fun K hK => ?_) ?_
                · (try simp only [List.getElem_toArray, List.getElem_cons_succ, List.getElem_cons_zero])
                  go_simp
                  go_at_call 43
                  refine (TC.out _).mono ?_
                  rintro e w5 ⟨rfl, b5⟩
                  have B5 := Lib.hid (BD.out.trans (b5.mono BD.out.size))
                  clear b5
                  refine hK.out _ _ ?_ (fun hHeld => ?_)
                  · exact HLT4.out _ B5.out
                  clear hK K
                  try simp only [List.getElem_toArray, List.getElem_cons_succ, List.getElem_cons_zero, Act.put, List.setIfInBounds_toArray, List.set_cons_zero, List.set_cons_succ]
                  refine wpAnyH_take (i := 11) (v := ?_) rfl (by kernel_rfl) (by kernel_rfl) (by kernel_rfl) (fun _ _ _ h => h) (Or.inl ⟨by rfl, ?_⟩) (by assumption) ?_
                  rotate_left 1
                  · intro w hSw; (try dsimp only at hSw); (try simp only [List.getElem_toArray, List.getElem_cons_succ, List.getElem_cons_zero]); go_simp; (try with_reducible rfl)
                  try simp only [List.getElem_toArray, List.getElem_cons_succ, List.getElem_cons_zero, Act.put, List.setIfInBounds_toArray, List.set_cons_zero, List.set_cons_succ]
                  refine wpAnyH_take (i := 12) (v := ?_) rfl (by kernel_rfl) (by kernel_rfl) (by kernel_rfl) (fun _ _ _ h => h) (Or.inl ⟨by rfl, ?_⟩) (by assumption) ?_
                  rotate_left 1
                  · intro w hSw; (try dsimp only at hSw); (try simp only [List.getElem_toArray, List.getElem_cons_succ, List.getElem_cons_zero]); go_simp; (try with_reducible rfl)
                  try simp only [List.getElem_toArray, List.getElem_cons_succ, List.getElem_cons_zero, Act.put, List.setIfInBounds_toArray, List.set_cons_zero, List.set_cons_succ]
                  refine wpAnyH_take (i := 13) (v := ?_) rfl (by kernel_rfl) (by kernel_rfl) (by kernel_rfl) (fun _ _ _ h => h) (Or.inl ⟨by rfl, ?_⟩) (by assumption) ?_
                  rotate_left 1
                  · intro w hSw; (try dsimp only at hSw); (try simp only [List.getElem_toArray, List.getElem_cons_succ, List.getElem_cons_zero]); go_simp; (try with_reducible rfl)
                  try simp only [List.getElem_toArray, List.getElem_cons_succ, List.getElem_cons_zero, Act.put, List.setIfInBounds_toArray, List.set_cons_zero, List.set_cons_succ]
                  refine wpAnyH_take (i := 14) (v := ?_) rfl (by kernel_rfl) (by kernel_rfl) (by kernel_rfl) (fun _ _ _ h => h) (Or.inl ⟨by rfl, ?_⟩) (by assumption) ?_
                  rotate_left 1
                  · intro w hSw; (try dsimp only at hSw); (try simp only [List.getElem_toArray, List.getElem_cons_succ, List.getElem_cons_zero]); go_simp; (try with_reducible rfl)
                  try simp only [List.getElem_toArray, List.getElem_cons_succ, List.getElem_cons_zero, Act.put, List.setIfInBounds_toArray, List.set_cons_zero, List.set_cons_succ]
                  refine wpAnyH_take (i := 15) (v := ?_) rfl (by kernel_rfl) (by kernel_rfl) (by kernel_rfl) (fun _ _ _ h => h) (Or.inl ⟨by rfl, ?_⟩) (by assumption) ?_
                  rotate_left 1
                  · intro w hSw; (try dsimp only at hSw); (try simp only [List.getElem_toArray, List.getElem_cons_succ, List.getElem_cons_zero]); go_simp; (try with_reducible rfl)
                  try simp only [List.getElem_toArray, List.getElem_cons_succ, List.getElem_cons_zero, Act.put, List.setIfInBounds_toArray, List.set_cons_zero, List.set_cons_succ]
                  refine wpAnyH_take (i := 16) (v := ?_) rfl (by kernel_rfl) (by kernel_rfl) (by kernel_rfl) (fun _ _ _ h => h) (Or.inl ⟨by rfl, ?_⟩) (by assumption) ?_
                  rotate_left 1
                  · intro w hSw; (try dsimp only at hSw); (try simp only [List.getElem_toArray, List.getElem_cons_succ, List.getElem_cons_zero]); go_simp; (try with_reducible rfl)
                  try simp only [List.getElem_toArray, List.getElem_cons_succ, List.getElem_cons_zero, Act.put, List.setIfInBounds_toArray, List.set_cons_zero, List.set_cons_succ]
                  refine wpAnyH_take (i := 17) (v := ?_) rfl (by kernel_rfl) (by kernel_rfl) (by kernel_rfl) (fun _ _ _ h => h) (Or.inl ⟨by rfl, ?_⟩) (by assumption) ?_
                  rotate_left 1
                  · intro w hSw; (try dsimp only at hSw); (try simp only [List.getElem_toArray, List.getElem_cons_succ, List.getElem_cons_zero]); go_simp; (try with_reducible rfl)
                  try simp only [List.getElem_toArray, List.getElem_cons_succ, List.getElem_cons_zero, Act.put, List.setIfInBounds_toArray, List.set_cons_zero, List.set_cons_succ]
                  refine wpAnyH_take (i := 18) (v := ?_) rfl (by kernel_rfl) (by kernel_rfl) (by kernel_rfl) (fun _ _ _ h => h) (Or.inl ⟨by rfl, ?_⟩) (by assumption) ?_
                  rotate_left 1
                  · intro w hSw; (try dsimp only at hSw); (try simp only [List.getElem_toArray, List.getElem_cons_succ, List.getElem_cons_zero]); go_simp; (try with_reducible rfl)
                  try simp only [List.getElem_toArray, List.getElem_cons_succ, List.getElem_cons_zero, Act.put, List.setIfInBounds_toArray, List.set_cons_zero, List.set_cons_succ]
                  refine wpAnyH_take (i := 19) (v := ?_) rfl (by kernel_rfl) (by kernel_rfl) (by kernel_rfl) (fun _ _ _ h => h) (Or.inl ⟨by rfl, ?_⟩) (by assumption) ?_
                  rotate_left 1
                  · intro w hSw; (try dsimp only at hSw); (try simp only [List.getElem_toArray, List.getElem_cons_succ, List.getElem_cons_zero]); go_simp; (try with_reducible rfl)
                  try simp only [List.getElem_toArray, List.getElem_cons_succ, List.getElem_cons_zero, Act.put, List.setIfInBounds_toArray, List.set_cons_zero, List.set_cons_succ]
                  refine wpAnyH_take (i := 20) (v := ?_) rfl (by kernel_rfl) (by kernel_rfl) (by kernel_rfl) (fun _ _ _ h => h) (Or.inl ⟨by rfl, ?_⟩) (by assumption) ?_
                  rotate_left 1
                  · intro w hSw; (try dsimp only at hSw); (try simp only [List.getElem_toArray, List.getElem_cons_succ, List.getElem_cons_zero]); go_simp; (try with_reducible rfl)
                  try simp only [List.getElem_toArray, List.getElem_cons_succ, List.getElem_cons_zero, Act.put, List.setIfInBounds_toArray, List.set_cons_zero, List.set_cons_succ]
                  refine wpAnyH_take (i := 21) (v := undef) rfl (by kernel_rfl) (by kernel_rfl) (by kernel_rfl) (fun _ _ _ h => h) (Or.inr ⟨by rfl, rfl⟩) (by assumption) ?_
                  try simp only [List.getElem_toArray, List.getElem_cons_succ, List.getElem_cons_zero, Act.put, List.setIfInBounds_toArray, List.set_cons_zero, List.set_cons_succ]
                  refine wpAnyH_take (i := 22) (v := undef) rfl (by kernel_rfl) (by kernel_rfl) (by kernel_rfl) (fun _ _ _ h => h) (Or.inr ⟨by rfl, rfl⟩) (by assumption) ?_
                  try simp only [List.getElem_toArray, List.getElem_cons_succ, List.getElem_cons_zero, Act.put, List.setIfInBounds_toArray, List.set_cons_zero, List.set_cons_succ]
                  refine wpAnyH_take (i := 23) (v := undef) rfl (by kernel_rfl) (by kernel_rfl) (by kernel_rfl) (fun _ _ _ h => h) (Or.inr ⟨by rfl, rfl⟩) (by assumption) ?_
                  try simp only [List.getElem_toArray, List.getElem_cons_succ, List.getElem_cons_zero, Act.put, List.setIfInBounds_toArray, List.set_cons_zero, List.set_cons_succ]
                  refine wpAnyH_take (i := 24) (v := undef) rfl (by kernel_rfl) (by kernel_rfl) (by kernel_rfl) (fun _ _ _ h => h) (Or.inr ⟨by rfl, rfl⟩) (by assumption) ?_
                  try simp only [List.getElem_toArray, List.getElem_cons_succ, List.getElem_cons_zero, Act.put, List.setIfInBounds_toArray, List.set_cons_zero, List.set_cons_succ]
                  refine wpAnyH_take (i := 25) (v := undef) rfl (by kernel_rfl) (by kernel_rfl) (by kernel_rfl) (fun _ _ _ h => h) (Or.inr ⟨by rfl, rfl⟩) (by assumption) ?_
                  try simp only [List.getElem_toArray, List.getElem_cons_succ, List.getElem_cons_zero, Act.put, List.setIfInBounds_toArray, List.set_cons_zero, List.set_cons_succ]
                  refine wpAnyH_take (i := 26) (v := undef) rfl (by kernel_rfl) (by kernel_rfl) (by kernel_rfl) (fun _ _ _ h => h) (Or.inr ⟨by rfl, rfl⟩) (by assumption) ?_
                  try simp only [List.getElem_toArray, List.getElem_cons_succ, List.getElem_cons_zero, Act.put, List.setIfInBounds_toArray, List.set_cons_zero, List.set_cons_succ]
                  refine wpAnyH_take (i := 27) (v := undef) rfl (by kernel_rfl) (by kernel_rfl) (by kernel_rfl) (fun _ _ _ h => h) (Or.inr ⟨by rfl, rfl⟩) (by assumption) ?_
                  try simp only [List.getElem_toArray, List.getElem_cons_succ, List.getElem_cons_zero, Act.put, List.setIfInBounds_toArray, List.set_cons_zero, List.set_cons_succ]
                  refine wpAnyH_take (i := 28) (v := undef) rfl (by kernel_rfl) (by kernel_rfl) (by kernel_rfl) (fun _ _ _ h => h) (Or.inr ⟨by rfl, rfl⟩) (by assumption) ?_
                  try simp only [List.getElem_toArray, List.getElem_cons_succ, List.getElem_cons_zero, Act.put, List.setIfInBounds_toArray, List.set_cons_zero, List.set_cons_succ]
                  refine wpAnyH_take (i := 29) (v := undef) rfl (by kernel_rfl) (by kernel_rfl) (by kernel_rfl) (fun _ _ _ h => h) (Or.inr ⟨by rfl, rfl⟩) (by assumption) ?_
                  try simp only [List.getElem_toArray, List.getElem_cons_succ, List.getElem_cons_zero, Act.put, List.setIfInBounds_toArray, List.set_cons_zero, List.set_cons_succ]
                  refine wpAnyH_take (i := 30) (v := undef) rfl (by kernel_rfl) (by kernel_rfl) (by kernel_rfl) (fun _ _ _ h => h) (Or.inr ⟨by rfl, rfl⟩) (by assumption) ?_
                  try simp only [List.getElem_toArray, List.getElem_cons_succ, List.getElem_cons_zero, Act.put, List.setIfInBounds_toArray, List.set_cons_zero, List.set_cons_succ]
                  refine wpAnyH_take (i := 31) (v := undef) rfl (by kernel_rfl) (by kernel_rfl) (by kernel_rfl) (fun _ _ _ h => h) (Or.inr ⟨by rfl, rfl⟩) (by assumption) ?_
                  try simp only [List.getElem_toArray, List.getElem_cons_succ, List.getElem_cons_zero, Act.put, List.setIfInBounds_toArray, List.set_cons_zero, List.set_cons_succ]
                  refine wpAnyH_take (i := 32) (v := undef) rfl (by kernel_rfl) (by kernel_rfl) (by kernel_rfl) (fun _ _ _ h => h) (Or.inr ⟨by rfl, rfl⟩) (by assumption) ?_
                  try simp only [List.getElem_toArray, List.getElem_cons_succ, List.getElem_cons_zero, Act.put, List.setIfInBounds_toArray, List.set_cons_zero, List.set_cons_succ]
                  refine wpAnyH_take (i := 33) (v := ?_) rfl (by kernel_rfl) (by kernel_rfl) (by kernel_rfl) (fun _ _ _ h => h) (Or.inl ⟨by rfl, ?_⟩) (by assumption) ?_
                  rotate_left 1
                  · intro w hSw; (try dsimp only at hSw); (try simp only [List.getElem_toArray, List.getElem_cons_succ, List.getElem_cons_zero]); go_simp; (try with_reducible rfl)
                  try simp only [List.getElem_toArray, List.getElem_cons_succ, List.getElem_cons_zero, Act.put, List.setIfInBounds_toArray, List.set_cons_zero, List.set_cons_succ]
                  refine wpAnyH_take (i := 34) (v := ?_) rfl (by kernel_rfl) (by kernel_rfl) (by kernel_rfl) (fun _ _ _ h => h) (Or.inl ⟨by rfl, ?_⟩) (by assumption) ?_
                  rotate_left 1
                  · intro w hSw; (try dsimp only at hSw); (try simp only [List.getElem_toArray, List.getElem_cons_succ, List.getElem_cons_zero]); go_simp; (try with_reducible rfl)
                  try simp only [List.getElem_toArray, List.getElem_cons_succ, List.getElem_cons_zero, Act.put, List.setIfInBounds_toArray, List.set_cons_zero, List.set_cons_succ]
                  refine wpAnyH_done (by kernel_rfl) ?_ _
                  go_wp2_with fail
                  go_roundg (gk - 1)
                  case measure => have := HMj.out; omega
                  case rel => exact ⟨j + 1, (by first | exact congrArg (Value.int .i64) hwj.out | exact congrArg (Value.int .i64) (by omega)), ⟨by have := HMj.out; omega, HBj.out.trans (B5.out.mono HBj.out.size)⟩⟩
                exact AllReadyH.nil
            · have hji : ¬ (j : Int) < ((np + 9 : Nat) : Int) := by omega
              have HN3 := Lib.hid (show N2 + ((np + 9 : Nat) : Int) = ((start vs (i + 1) : Nat) : Int) by rw [start_succ HP.out, HN2.out]; simp only; omega)
              go_wp2_with fail
              go_roundg (g3 - 1)
              case measure => have := HMi.out; omega
              case rel => exact ⟨i + 1, N2 + ((np + 9 : Nat) : Int), (by first | exact congrArg (Value.int .i64) hwi'.out | exact congrArg (Value.int .i64) (by omega)), (by first | rfl | exact congrArg (Value.int .i64) (by omega)), ⟨by have := HMi.out; omega, HN3.out, HBW.out.trans (HBj.out.mono HBW.out.size)⟩⟩
        · have hiu' : ¬ (i : Int) < (us.length : Int) := by omega
          go_wp2
          go_ret
          exact ⟨rfl, ST.out.only.step (Only.of_below HBW.out (fun _ => False)) (fun _ _ h => h.elim)⟩
end Go.Proofs.Ytlphpmdmlcphbaa.ApG
