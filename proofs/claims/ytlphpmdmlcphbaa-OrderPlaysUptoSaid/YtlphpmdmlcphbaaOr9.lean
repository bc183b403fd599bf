/- Seat E: net.wanted, walked (over the contract of the sorted keys). -/
import Derived.Test.YtlphpmdmlcphbaaOr8
namespace Go.Proofs.Ytlphpmdmlcphbaa.Or
open Go.RowKit Go.Proofs.Ytlphpmdmlcphbaa.Mem Go.Proofs.YtlphpmdmlcphbaaW.PrintWords Go.Maps Go.Proofs.Ytlphpmdmlcphbaa.Om
set_option linter.unusedVariables false
set_option linter.unusedSimpArgs false
set_option maxRecDepth 100000
set_option maxHeartbeats 4000000
/-- The contracts of maps.Keys and slices.Sorted at a set: srt gives its names, sorted. -/
def KeysC (srt : List ByteArray → List ByteArray) : Prop := ∀ (W : World) (b n : Nat) (S : List ByteArray), Mp W b n (mset S) → n ≤ 16777216 →
  (Calls Try.prog 38 #[.map (some b)] W fun e w' => e = .returned (.func (.func 45) #[] #[.pointer (some ⟨W.heap.size, 0, none⟩)]) ∧ w' = W.alloc (.cells #[.map (some b)] 69)) ∧
  (Calls Try.prog 37 #[.func (.func 45) #[] #[.pointer (some ⟨W.heap.size, 0, none⟩)]] (W.alloc (.cells #[.map (some b)] 69)) fun e w' => ∃ v, e = .returned v ∧ OwnS w' W.heap.size v (srt S) ∧ Below W.heap.size W w')
theorem wanted_c (srt : List ByteArray → List ByteArray) (KEYS : Hid (KeysC srt)) (g mu mh nu nh : Nat) (m : ByteArray → Option Value) (l : List Vo) (H : List ByteArray) (Aw : Option Addr) (cw : Nat) (wl : List ByteArray) (w0 w : World) (hg : Blk w g 71 [.map (some mu), .map (some mh)]) (hU : Mp w mu nu m) (hUM : UM w0 l m) (hb0 : Below w0.heap.size w0 w) (hH : Mp w mh nh (mset H))
    (hF : Fine l) (hW : Kd.string.C w Aw wl.length wl) (hWf : Flat Aw cw) (hWs : (∀ u ∈ wl, u.size ≤ maxLen) ∧ wl.length ≤ 4194304) (n : Nat) (hnb : n ≤ 16777216) (seen0 miss0 : List ByteArray) (hr : want l H n wl [] [] = some (seen0, miss0)) :
    Calls Try.prog 19 #[.pointer (some ⟨g, 0, none⟩), .slice Aw wl.length cw] w fun e w' => ∃ v vm, e = .returned (.tuple #[v, vm]) ∧ OwnS w' w.heap.size v (srt seen0) ∧ OwnS w' w.heap.size vm miss0 ∧ Below w.heap.size w w' := by
  have NB := Lib.hid hnb
  have hmm := @run_makeMap Try.prog
  have G0 := Lib.hid hg
  have U0 := Lib.hid hU
  have UMH := Lib.hid hUM
  have H0 := Lib.hid hH
  have HF := Lib.hid hF
  have HB0 := Lib.hid hb0
  have HWS := Lib.hid hWs
  obtain ⟨i, hi, hz0, hz1, hz2⟩ := info9
  have HCL := Lib.hid (clone_s Aw cw wl (w.alloc (.map #[] 0)) (Kd.C_below hW ((Below.refl _ w).alloc (Nat.le_refl _) _)) (by have := hWs.2; omega) hWf)
  clear hg hU hUM hH hF hb0 hW hWf hWs
  go_enter Try.func19, Try.ntmps19
  go_wp2_with (first
    | (go_at_call 36; go_loud (refine HCL.out.mono ?_); rintro e w1 ⟨v1, rfl, r1, b1⟩; obtain ⟨A1, c1, rfl⟩ := Kd.R_slice r1; have R1 := Lib.hid r1; have B1 := Lib.hid b1; clear r1 b1)
    | fail)
  have hL : w.heap.size < (w.alloc (.map #[] 0)).heap.size := by simp
  have MS1 := Lib.hid (mset_nil ▸ (Mp.made w).below B1.out hL)
  have G1 := Lib.hid ((G0.out.alloc (.map #[] 0)).below B1.out (Nat.lt_trans G0.out.lt hL))
  have U1 := Lib.hid ((U0.out.alloc (.map #[] 0)).below B1.out (Nat.lt_trans U0.out.lt hL))
  have H1 := Lib.hid ((H0.out.alloc (.map #[] 0)).below B1.out (Nat.lt_trans H0.out.lt hL))
  have BB1 : Hid (Below w.heap.size w w1) := Lib.hid (((Below.refl _ w).alloc (Nat.le_refl _) (.map #[] 0)).trans (B1.out.mono (Nat.le_of_lt hL)))
  have RR1 := Lib.hid (Kd.R_lower R1.out (Nat.le_of_lt hL))
  have hul : Hid (∀ x, (uses l x).length ≤ 4194304) := Lib.hid (fun x => Nat.le_trans (uses_len l x) HF.out.2.1)
  have hub : Hid (wl.length + ub l [] ≤ 8388608) := Lib.hid (by have := HWS.out.2; have := ub_tot l; have := HF.out.2.1; omega)
  have hNE : Hid (mu ≠ w.heap.size ∧ mh ≠ w.heap.size ∧ g < w.heap.size) := Lib.hid ⟨Nat.ne_of_lt U0.out.lt, Nat.ne_of_lt H0.out.lt, G0.out.lt⟩
  clear HCL hmm B1 R1
  go_loopg [5, 7] n (fun q mv lv wr => ∃ (st seen miss : List ByteArray) (A Am : Option Addr) (c cm : Nat), mv = .slice Am miss.length cm ∧ lv = .slice A st.length c ∧ Aside1 (want l H q st seen miss = some (seen0, miss0) ∧ st.length + ub l seen ≤ 8388608 ∧ seen.length + q ≤ n ∧ (∀ u ∈ st, u.size ≤ maxLen) ∧ miss.length ≤ seen.length) ∧ Aside1 (Kd.string.R 9 wr w.heap.size (fun _ => True) (.slice A st.length c) st) ∧
    Aside1 (OwnS wr w.heap.size (.slice Am miss.length cm) miss) ∧ Aside1 (∀ b, (Value.slice A st.length c).ownBlock = some b → (Value.slice Am miss.length cm).ownBlock ≠ some b) ∧
    Aside1 (Mp wr w.heap.size seen.length (mset seen)) ∧ Aside1 (Blk wr g 71 [.map (some mu), .map (some mh)]) ∧ Aside1 (Mp wr mu nu m) ∧ Aside1 (Mp wr mh nh (mset H)) ∧ Aside1 (Below w.heap.size w wr))
  case atStart => exact ⟨wl, [], [], A1, none, c1, 0, rfl, rfl, ⟨hr, hub.out, by simp, HWS.out.1, by simp⟩, ⟨RR1.out⟩, ⟨World.ownsRow_nil _ _ _ _⟩, ⟨fun b _ h => by cases h⟩, ⟨MS1.out⟩, ⟨G1.out⟩, ⟨U1.out⟩, ⟨H1.out⟩, ⟨BB1.out⟩⟩
  case round =>
    obtain ⟨st, seen, miss, A, Am, c, cm, rfl, rfl, ⟨hci, hbud, hsn, hsz, hml⟩, ⟨hR⟩, ⟨hOM⟩, ⟨hDJ⟩, ⟨hMS⟩, ⟨hG⟩, ⟨hU⟩, ⟨hH⟩, ⟨hB⟩⟩ := hrel
    have CI := Lib.hid hci
    have BU := Lib.hid hbud
    have SN := Lib.hid hsn
    have SZ := Lib.hid hsz
    have ML := Lib.hid hml
    have R := Lib.hid hR
    have OM := Lib.hid hOM
    have DJ := Lib.hid hDJ
    have MS := Lib.hid hMS
    have G := Lib.hid hG
    have U := Lib.hid hU
    have HH := Lib.hid hH
    have B := Lib.hid hB
    clear hci hbud hsn hsz hml hR hOM hDJ hMS hG hU hH hB MS1 G1 U1 H1 BB1 RR1 G0 U0 H0
    by_cases h0 : st.length = 0
    · have hrf : seen = seen0 ∧ miss = miss0 := by
        have h := CI.out
        rcases gk with _ | q
        · rw [want] at h; cases h
        · rw [want, if_pos h0] at h
          injection h with h
          injection h with h1 h2
          exact ⟨h1, h2⟩
      have HRF := Lib.hid hrf
      have hK := KEYS.out wr w.heap.size seen.length seen MS.out (by have := SN.out; have := NB.out; omega)
      have K1 := Lib.hid hK.1
      have K2 := Lib.hid hK.2
      clear CI hrf hK
      rw [h0]
      go_wp2_with (first
        | (go_at_call 38; refine K1.out.mono ?_; rintro e wz ⟨rfl, hwz⟩; rw [hwz]; clear hwz)
        | (go_at_call 37; refine K2.out.mono ?_; rintro e w8 ⟨v8, rfl, o8, b8⟩; have O8 := Lib.hid o8; have B8 := Lib.hid b8; clear o8 b8)
        | fail)
      go_ret2
      refine ⟨v8, _, rfl, ?_, ?_, B.out.trans (B8.out.mono B.out.size)⟩
      · rw [← HRF.out.1]
        obtain ⟨h1, h2⟩ := O8.out
        refine ⟨h1, ?_⟩
        rcases h2 with h2 | ⟨g', cap, cur, hv, hb, hrest⟩
        · exact .inl h2
        · exact .inr ⟨g', cap, cur, hv, Nat.le_trans B.out.size hb, hrest⟩
      · rw [← HRF.out.2]
        exact OwnS.below OM.out B8.out
    · obtain ⟨rs, x, rfl⟩ := snoc_of h0
      have hxs : x.size ≤ maxLen := SZ.out x (by simp)
      have hR1 := Kd.R_reads' R.out
      obtain ⟨ad, rfl, ex⟩ := name_at hR1.2.2 rfl rs.length (by simp)
      rw [List.getElem_append_right (Nat.le_refl _)] at ex
      simp only [Nat.sub_self, List.getElem_cons_zero] at ex
      have hcl : rs.length + 1 ≤ c := by have := hR1.2.1; simpa using this
      have hln : (rs ++ [x]).length = rs.length + 1 := by simp
      have hrl : (rs.length : Int) ≤ 8388608 := by have := BU.out; rw [hln] at this; omega
      have g1 := G.out.cell_at 1 _ rfl
      have g0 := G.out.cell_at 0 _ rfl
      rw [hln]
      clear hR1
      obtain ⟨q, hq⟩ : ∃ q, gk = q + 1 := by
        rcases gk with _ | q
        · have h := CI.out
          rw [want] at h
          cases h
        · exact ⟨q, rfl⟩
      have hci := CI.out
      rw [hq, want_succ] at hci
      have CI2 := Lib.hid hci
      have HQ := Lib.hid hq
      have RP := Lib.hid (R_pop R.out)
      have hl1 := HH.out.look u69 (zero4 _) x hxs
      have hl2 := MS.out.look u69 (zero4 _) x hxs
      rw [mset_get] at hl1 hl2
      have hbud2 : Hid (rs.length + ub l seen ≤ 8388608) := Lib.hid (by have := BU.out; rw [hln] at this; omega)
      have hsz2 : Hid (∀ u ∈ rs, u.size ≤ maxLen) := Lib.hid (fun u hu => SZ.out u (by simp [hu]))
      clear hci hq
      by_cases hxH : x ∈ H
      · rw [decide_eq_true hxH] at hl1
        have CI3 := Lib.hid (show want l H q rs seen miss = some (seen0, miss0) by have h := CI2.out; rwa [if_pos (Or.inl hxH)] at h)
        clear CI CI2
        go_wp2_with fail
        go_roundg q
        case measure => have := HQ.out; omega
        case rel => exact ⟨rs, seen, miss, some ad, Am, c, cm, rfl, rfl, ⟨CI3.out, hbud2.out, by have := SN.out; have := HQ.out; omega, hsz2.out, ML.out⟩, ⟨RP.out⟩, ⟨OM.out⟩, ⟨DJ.out⟩, ⟨MS.out⟩, ⟨G.out⟩, ⟨U.out⟩, ⟨HH.out⟩, ⟨B.out⟩⟩
      · rw [decide_eq_false hxH] at hl1
        by_cases hxS : x ∈ seen
        · rw [decide_eq_true hxS] at hl2
          have CI3 := Lib.hid (show want l H q rs seen miss = some (seen0, miss0) by have h := CI2.out; rwa [if_pos (Or.inr hxS)] at h)
          clear CI CI2
          go_wp2_with fail
          go_roundg q
          case measure => have := HQ.out; omega
          case rel => exact ⟨rs, seen, miss, some ad, Am, c, cm, rfl, rfl, ⟨CI3.out, hbud2.out, by have := SN.out; have := HQ.out; omega, hsz2.out, ML.out⟩, ⟨RP.out⟩, ⟨OM.out⟩, ⟨DJ.out⟩, ⟨MS.out⟩, ⟨G.out⟩, ⟨U.out⟩, ⟨HH.out⟩, ⟨B.out⟩⟩
        · rw [decide_eq_false hxS] at hl2
          have hci3 := CI2.out
          rw [if_neg (show ¬ (x ∈ H ∨ x ∈ seen) from fun h => h.elim hxH hxS)] at hci3
          have CI4 := Lib.hid hci3
          have hst := ub_step l seen x hxS
          have hn5 : seen.length < maxLen := by have := SN.out; have := NB.out; unfold maxLen; omega
          obtain ⟨w3, hrun3, hm3, ho3⟩ := MS.out.update u69 hn5 x hxs (.bool true)
          rw [mset_cons] at hm3
          have M3 := Lib.hid hm3
          have R3 := Lib.hid (show Kd.string.R 9 w3 w.heap.size (fun _ => True) (.slice (some ad) rs.length c) rs from Kd.R_of_own (World.ownsRow.kept (row := some w.heap.size) (Kd.own_of_R RP.out) ⟨ho3.os, ho3.tape, ho3.output, ho3.size, fun k hk hn => ho3.block k hk (fun e => hn (by rw [e]))⟩ (.inr (OwnS.ne (l := rs) (Kd.own_of_R RP.out) MS.out))) (fun _ _ => trivial))
          have OM3 := Lib.hid (OwnS.only OM.out MS.out ho3)
          have G3 := Lib.hid (G.out.keep ho3 (by have := hNE.out; omega))
          have U3 := Lib.hid (U.out.step ho3 hNE.out.1)
          have H3 := Lib.hid (HH.out.step ho3 hNE.out.2.1)
          have B3 := Lib.hid (((Only.of_below B.out (fun k => k = w.heap.size)).step ho3 (fun _ _ h => h)).below (B := w.heap.size) (Nat.le_refl _) (fun q hq h => by omega))
          obtain ⟨Ax, cx, hvx, hCx, hcx, hflx⟩ := UMH.out.get x
          have hl3 := U3.out.look_ok u68 (zero23 _) x hxs
          rw [hvx, UMH.out.ok x] at hl3
          have g03 := G3.out.cell_at 0 _ rfl
          have HCX := Lib.hid (Kd.C_below hCx ((HB0.out.trans (B3.out.mono HB0.out.size))))
          have hlenx : rs.length + (uses l x).length ≤ 16777216 := by have := hbud2.out; have := hul.out x; omega
          have HLX := Lib.hid hlenx
          have USZ := Lib.hid (uses_size HF.out x)
          have hub3 : Hid (ub l (x :: seen) + (uses l x).length ≤ ub l seen) := Lib.hid hst
          clear CI CI2 hci3 hst hm3 ho3 hCx hvx hlenx
          by_cases hun : usesOf l x = none
          · have hsf : (usesOf l x).isSome = false := by rw [hun]; rfl
            rw [hsf] at hl3
            have CI3 := Lib.hid (show want l H q rs (x :: seen) (miss ++ [x]) = some (seen0, miss0) by have h := CI4.out; rwa [if_pos hun] at h)
            clear CI4 hun
            go_wp2_with (first
              | ((with_reducible refine gate_builtin (b := .append) (xs := #[.tmp 54, .tmp 56]) rfl ?_); at_builtin; go_loud (refine Kd.R_append Kd.string (w0 := w3) w.heap.size rfl (.tmp 54) (.tmp 56) 23 9 (.string ByteArray.empty) 16 rfl (by kernel_rfl) info9m rfl (by decide) (by decide) (.slice Am miss.length cm) miss x [.string x] (fun _ => True) (fun _ => False) rfl rfl rfl (fun _ h => h.elim) (fun _ _ => trivial) (Kd.R_of_own OM3.out (fun _ _ => trivial)) (Below.refl _ _) B3.out.size (by have := ML.out; have := SN.out; have := NB.out; omega) ?_); intro v4 w4 r4 b4 g4 at4
                 obtain ⟨A4, c4, rfl⟩ := Kd.R_slice r4
                 have OM4 := Lib.hid (show OwnS w4 w.heap.size (.slice A4 (miss ++ [x]).length c4) (miss ++ [x]) from Kd.own_of_R r4)
                 have R4 := Lib.hid (show Kd.string.R 9 w4 w.heap.size (fun _ => True) (.slice (some ad) rs.length c) rs from Kd.R_of_own (World.ownsRow.kept (Kd.own_of_R R3.out) g4 (.inr (fun e => DJ.out ad.block rfl e.symm))) (fun _ _ => trivial))
                 have DJ4 : Hid (∀ b, (Value.slice (some ad) rs.length c).ownBlock = some b → (Value.slice A4 (miss ++ [x]).length c4).ownBlock ≠ some b) := Lib.hid (fun b hb hm => by
                   rcases at4 with h | ⟨b', h, hge⟩
                   · exact DJ.out b hb (h.symm.trans hm)
                   · rw [h] at hm
                     injection hm with hm
                     have := (World.ownsRow.lt (Kd.own_of_R R3.out) b hb).2
                     omega)
                 have M4 := Lib.hid (M3.out.step (Only.of_grown g4) (fun h => OwnS.ne OM3.out M3.out h.symm))
                 have U4 := Lib.hid (U3.out.step (Only.of_grown g4) (fun h => OwnS.ne OM3.out U3.out h.symm))
                 have H4 := Lib.hid (H3.out.step (Only.of_grown g4) (fun h => OwnS.ne OM3.out H3.out h.symm))
                 have G4 := Lib.hid (G3.out.keep (Only.of_grown g4) (fun h => by have h1 := (World.ownsRow.lt OM3.out _ h.symm).1; have := hNE.out; omega))
                 have B4 := Lib.hid (B3.out.trans b4)
                 clear r4 b4 g4 at4)
              | fail)
            go_roundg q
            case measure => have := HQ.out; omega
            case rel => exact ⟨rs, x :: seen, miss ++ [x], some ad, A4, c, c4, (by simp), rfl, ⟨CI3.out, by have := hub3.out; have := hbud2.out; omega, by have := SN.out; have := HQ.out; simp; omega, hsz2.out, by have := ML.out; simp; omega⟩, ⟨R4.out⟩, ⟨OM4.out⟩, ⟨DJ4.out⟩, ⟨M4.out⟩, ⟨G4.out⟩, ⟨U4.out⟩, ⟨H4.out⟩, ⟨B4.out⟩⟩
          · have hst' : (usesOf l x).isSome = true := by cases h : usesOf l x with | none => exact absurd h hun | some _ => rfl
            rw [hst'] at hl3
            have CI3 := Lib.hid (show want l H q (rs ++ uses l x) (x :: seen) miss = some (seen0, miss0) by have h := CI4.out; rwa [if_neg hun] at h)
            clear CI4 hun
            go_wp2_with (first
              | ((with_reducible refine gate_builtin (b := .append) (xs := #[.tmp 51, .tmp 52]) rfl ?_); at_builtin; go_loud (refine Kd.R_append_rows Kd.string (w0 := w3) w.heap.size rfl (.tmp 51) (.tmp 52) 23 9 (.string ByteArray.empty) 16 rfl (by kernel_rfl) info9m rfl (by decide) (by decide) (.slice (some ad) rs.length c) rs (uses l x) Ax (uses l x).length cx (fun _ => True) (fun _ => False) rfl rfl R3.out HCX.out (fun _ _ h => h) (fun _ h => h.elim) (fun _ _ => trivial) (Below.refl _ _) B3.out.size (by have := HLX.out; omega) ?_); intro v4 w4 r4 b4 g4 at4
                 obtain ⟨A4, c4, rfl⟩ := Kd.R_slice r4
                 have R4 := Lib.hid r4
                 have DJ3 : Hid (∀ b, (Value.slice (some ad) rs.length c).ownBlock = some b → (Value.slice Am miss.length cm).ownBlock ≠ some b) := DJ
                 have OM4 := Lib.hid (show OwnS w4 w.heap.size (.slice Am miss.length cm) miss from World.ownsRow.kept OM3.out g4 (.inr (fun e => DJ3.out ad.block rfl e)))
                 have DJ4 : Hid (∀ b, (Value.slice A4 (rs ++ uses l x).length c4).ownBlock = some b → (Value.slice Am miss.length cm).ownBlock ≠ some b) := Lib.hid (fun b hb hm => by
                   rcases at4 with h | ⟨b', h, hge⟩
                   · exact DJ3.out b (h.symm.trans hb) hm
                   · rw [h] at hb
                     injection hb with hb
                     have := (World.ownsRow.lt OM3.out b hm).2
                     omega)
                 have M4 := Lib.hid (M3.out.step (Only.of_grown g4) (fun h => OwnS.ne (l := rs) (Kd.own_of_R R3.out) M3.out h.symm))
                 have U4 := Lib.hid (U3.out.step (Only.of_grown g4) (fun h => OwnS.ne (l := rs) (Kd.own_of_R R3.out) U3.out h.symm))
                 have H4 := Lib.hid (H3.out.step (Only.of_grown g4) (fun h => OwnS.ne (l := rs) (Kd.own_of_R R3.out) H3.out h.symm))
                 have G4 := Lib.hid (G3.out.keep (Only.of_grown g4) (fun h => by have h1 := (World.ownsRow.lt (Kd.own_of_R R3.out) _ h.symm).1; have := hNE.out; omega))
                 have B4 := Lib.hid (B3.out.trans b4)
                 clear r4 b4 g4 at4)
              | fail)
            go_roundg q
            case measure => have := HQ.out; omega
            case rel => exact ⟨rs ++ uses l x, x :: seen, miss, A4, Am, c4, cm, rfl, (by simp), ⟨CI3.out, by have := hub3.out; have := hbud2.out; rw [List.length_append]; omega, by have := SN.out; have := HQ.out; simp; omega, fun u hu => by rcases List.mem_append.1 hu with h | h; exact hsz2.out u h; exact USZ.out u h, by have := ML.out; simp; omega⟩, ⟨R4.out⟩, ⟨OM4.out⟩, ⟨DJ4.out⟩, ⟨M4.out⟩, ⟨G4.out⟩, ⟨U4.out⟩, ⟨H4.out⟩, ⟨B4.out⟩⟩
end Go.Proofs.Ytlphpmdmlcphbaa.Or
