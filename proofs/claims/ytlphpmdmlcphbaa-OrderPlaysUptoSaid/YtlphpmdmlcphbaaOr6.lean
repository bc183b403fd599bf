/- Seat E: net.circle, walked. -/
import Derived.Test.YtlphpmdmlcphbaaOr5
namespace Go.Proofs.Ytlphpmdmlcphbaa.Or
open Go.RowKit Go.Proofs.Ytlphpmdmlcphbaa.Mem Go.Proofs.YtlphpmdmlcphbaaW.PrintWords Go.Maps Go.Proofs.Ytlphpmdmlcphbaa.Om
set_option linter.unusedVariables false
set_option linter.unusedSimpArgs false
set_option maxRecDepth 100000
set_option maxHeartbeats 4000000
theorem zero23 (w : World) : (zeroValue 23).run Try.prog w = .ok (.slice none 0 0) w := by
  have h : (Try.prog.info? 23).map (fun i => i.zero) = some (some (.slice none 0 0)) := by kernel_rfl
  cases hi : Try.prog.info? 23 with
  | none => rw [hi] at h; cases h
  | some i => rw [hi] at h; injection h with h; simp [zeroValue, typeInfo, hi, h]
/-- What a look-up in the map of uses gives. -/
theorem UM.get {w : World} {l : List Vo} {m : ByteArray → Option Value} (h : UM w l m) (x : ByteArray) : ∃ Au cu, (m x).getD (.slice none 0 0) = .slice Au (uses l x).length cu ∧ Kd.string.C w Au (uses l x).length (uses l x) ∧ (uses l x).length ≤ cu ∧ Flat Au cu := by
  have h1 := h x
  unfold uses
  cases hu : usesOf l x with
  | none =>
    rw [hu] at h1
    simp only [] at h1
    rw [h1]
    refine ⟨none, 0, rfl, ?_, Nat.le_refl _, .inl ⟨rfl, rfl⟩⟩
    exact (Kd.R_reads (Kd.R_nil Kd.string 9 w 0 (fun _ => True))).elim (fun A h => by obtain ⟨c, hv, hc, hC⟩ := h; injection hv with hA _ _; subst hA; exact hC)
  | some us =>
    rw [hu] at h1
    obtain ⟨A, c, e1, e2, e3, e4⟩ := h1
    exact ⟨A, c, by rw [e1]; rfl, e2, e3, e4⟩
theorem uses_len (l : List Vo) (x : ByteArray) : (uses l x).length ≤ tot l := by
  have h := ub_step l [] x (by simp)
  have := ub_tot l
  omega
/-- The top goes. -/
theorem R_pop {w : World} {base : Nat} {ok : Nat → Prop} {A : Option Addr} {c n : Nat} {r : List ByteArray} {x : ByteArray} (h : Kd.string.R 9 w base ok (.slice A n c) (r ++ [x])) : Kd.string.R 9 w base ok (.slice A r.length c) r := by
  have ho : w.ownsRow base 9 1 (.slice A n c) (r ++ [x]).length ((r ++ [x]).map Value.string) := Kd.own_of_R h
  have hk : ∀ k, (Value.slice A n c).ownBlock = some k → ok k := h.1
  refine Kd.R_of_own (enc := Value.string) (h1 := fun _ => rfl) (show w.ownsRow base 9 1 (.slice A r.length c) r.length (r.map Value.string) from ?_) ?_
  · rcases ho.2 with ⟨_, h0⟩ | ⟨g, cap, cur, hv, hb, hg, hl, hm, hs, ht⟩
    · simp at h0
    · injection hv with e1 e2 e3
      subst e1; subst e3
      refine ⟨by simp, .inr ⟨g, c, cur, rfl, hb, hg, ?_, hm, hs, ?_⟩⟩
      · simp at hl; omega
      · rw [Nat.mul_one]
        calc cur.toList.take r.length = (cur.toList.take ((r ++ [x]).length * 1)).take r.length := by rw [List.take_take, Nat.min_eq_left (by simp)]
          _ = ((r ++ [x]).map Value.string).take r.length := by rw [ht]
          _ = r.map Value.string := by rw [List.map_append]; exact List.take_left' (by simp)
  · intro k hk'
    refine hk k ?_
    cases A with
    | none => simp [Value.ownBlock] at hk'
    | some a => simpa [Value.ownBlock] using hk'
theorem snoc_of {l : List ByteArray} (h : l.length ≠ 0) : ∃ r x, l = r ++ [x] := ⟨l.dropLast, l.getLast (by intro e; exact h (by rw [e]; rfl)), (List.dropLast_concat_getLast _).symm⟩
theorem usesOf_mem (x : ByteArray) (us : List ByteArray) : ∀ (l : List Vo) (a : Option (List ByteArray)), l.foldl (fun a v => if x = v.1 then some v.2 else a) a = some us → a = some us ∨ ∃ v ∈ l, v.2 = us
  | [], a, h => .inl h
  | v :: r, a, h => by
    rcases usesOf_mem x us r _ h with h1 | ⟨v', hv', e⟩
    · by_cases hx : x = v.1
      · simp only [if_pos hx] at h1
        exact .inr ⟨v, List.mem_cons_self .., by injection h1⟩
      · simp only [if_neg hx] at h1
        exact .inl h1
    · exact .inr ⟨v', List.mem_cons_of_mem _ hv', e⟩
theorem uses_size {l : List Vo} (hF : Fine l) (x : ByteArray) : ∀ u ∈ uses l x, u.size ≤ maxLen := by
  unfold uses
  cases hu : usesOf l x with
  | none => intro u h; simp at h
  | some us =>
    rcases usesOf_mem x us l none hu with h | ⟨v, hv, rfl⟩
    · cases h
    · exact fun u h => (hF.1 v hv).2 u h
theorem tl_true {x y : ByteArray} (h : x = y) : (x.toList == y.toList) = true := by subst h; simp
theorem tl_false {x y : ByteArray} (h : ¬ x = y) : (x.toList == y.toList) = false := by
  refine beq_eq_false_iff_ne.2 (fun e => h ?_)
  rw [ByteArray.toList_eq, ByteArray.toList_eq] at e
  exact key_inj (congrArg Lit.string e)
theorem circ_succ (l : List Vo) (H : List ByteArray) (name : ByteArray) (q : Nat) (rs : List ByteArray) (x : ByteArray) (seen : List ByteArray) :
    circ l H name (q + 1) (rs ++ [x]) seen = if x ∈ H ∨ x ∈ seen then circ l H name q rs seen else if x = name then some true else circ l H name q (rs ++ uses l x) (x :: seen) := by
  have h1 : (rs ++ [x]).getLastD ByteArray.empty = x := by simp
  have h2 : (rs ++ [x]).dropLast = rs := by simp
  rw [circ, if_neg (by simp), h1, h2]
theorem circle_c (g mu mh nu nh : Nat) (m : ByteArray → Option Value) (l : List Vo) (H : List ByteArray) (name : ByteArray) (w0 w : World) (hg : Blk w g 71 [.map (some mu), .map (some mh)]) (hU : Mp w mu nu m) (hUM : UM w0 l m) (hb0 : Below w0.heap.size w0 w) (hH : Mp w mh nh (mset H))
    (hF : Fine l) (hN : name.size ≤ maxLen) (n : Nat) (hnb : n ≤ 16777216) (r : Bool) (hr : circ l H name n (uses l name) [] = some r) :
    Calls Try.prog 21 #[.pointer (some ⟨g, 0, none⟩), .string name] w fun e w' => e = .returned (.bool r) ∧ Below w.heap.size w w' := by
  have NB := Lib.hid hnb
  have hmm := @run_makeMap Try.prog
  have G0 := Lib.hid hg
  have U0 := Lib.hid hU
  have UMH := Lib.hid hUM
  have H0 := Lib.hid hH
  have HF := Lib.hid hF
  have HB0 := Lib.hid hb0
  obtain ⟨Au, cu, hv, hC, hcu, hfl⟩ := hUM.get name
  have hlk := (hU.alloc (.map #[] 0)).look u68 (zero23 _) name hN
  rw [hv] at hlk
  have c0 := (hg.alloc (.map #[] 0)).cell_at 0 _ rfl
  have HCL := Lib.hid (clone_s Au cu (uses l name) (w.alloc (.map #[] 0)) (Kd.C_below hC (hb0.alloc hb0.size _)) (by have := uses_len l name; have := hF.2.1; omega) hfl)
  clear hg hU hUM hH hF hb0 hC hfl
  go_enter Try.func21, Try.ntmps21
  go_wp2_with fail
  go_step3
  go_wp2_with (first
    | (go_at_call 36; go_loud (refine HCL.out.mono ?_); rintro e w1 ⟨v1, rfl, r1, b1⟩; obtain ⟨A1, c1, rfl⟩ := Kd.R_slice r1; have R1 := Lib.hid r1; have B1 := Lib.hid b1; clear r1 b1)
    | fail)
  go_step3
  go_wp2_with fail
  have hL : w.heap.size < (w.alloc (.map #[] 0)).heap.size := by simp
  have MS1 := Lib.hid (mset_nil ▸ (Mp.made w).below B1.out hL)
  have G1 := Lib.hid ((G0.out.alloc (.map #[] 0)).below B1.out (Nat.lt_trans G0.out.lt hL))
  have U1 := Lib.hid ((U0.out.alloc (.map #[] 0)).below B1.out (Nat.lt_trans U0.out.lt hL))
  have H1 := Lib.hid ((H0.out.alloc (.map #[] 0)).below B1.out (Nat.lt_trans H0.out.lt hL))
  have BB1 : Hid (Below w.heap.size w w1) := Lib.hid (((Below.refl _ w).alloc (Nat.le_refl _) (.map #[] 0)).trans (B1.out.mono (Nat.le_of_lt hL)))
  have RR1 := Lib.hid (Kd.R_lower R1.out (Nat.le_of_lt hL))
  have hul : Hid (∀ x, (uses l x).length ≤ 4194304) := Lib.hid (fun x => Nat.le_trans (uses_len l x) HF.out.2.1)
  have hub : Hid ((uses l name).length + ub l [] ≤ 8388608) := Lib.hid (by have := uses_len l name; have := ub_tot l; have := HF.out.2.1; omega)
  have hNE : Hid (mu ≠ w.heap.size ∧ mh ≠ w.heap.size ∧ g < w.heap.size) := Lib.hid ⟨Nat.ne_of_lt U0.out.lt, Nat.ne_of_lt H0.out.lt, G0.out.lt⟩
  have hUB : Hid (∀ us ∈ l.map (fun v => v.2), ∀ u ∈ us, u.size ≤ maxLen) := Lib.hid (fun us hus u hu => by obtain ⟨v, hv, rfl⟩ := List.mem_map.1 hus; exact (HF.out.1 v hv).2 u hu)
  clear hlk c0 HCL hmm B1 R1 hv
  go_loopg [6] n (fun q lv wr => ∃ (st seen : List ByteArray) (A : Option Addr) (c : Nat), lv = .slice A st.length c ∧ Aside1 (circ l H name q st seen = some r ∧ st.length + ub l seen ≤ 8388608 ∧ seen.length + q ≤ n ∧ ∀ u ∈ st, u.size ≤ maxLen) ∧ Aside1 (Kd.string.R 9 wr w.heap.size (fun _ => True) (.slice A st.length c) st) ∧
    Aside1 (Mp wr w.heap.size seen.length (mset seen)) ∧ Aside1 (Blk wr g 71 [.map (some mu), .map (some mh)]) ∧ Aside1 (Mp wr mu nu m) ∧ Aside1 (Mp wr mh nh (mset H)) ∧ Aside1 (Below w.heap.size w wr))
  case atStart => exact ⟨uses l name, [], A1, c1, rfl, ⟨hr, hub.out, by simp, uses_size HF.out name⟩, ⟨RR1.out⟩, ⟨MS1.out⟩, ⟨G1.out⟩, ⟨U1.out⟩, ⟨H1.out⟩, ⟨BB1.out⟩⟩
  case round =>
    obtain ⟨st, seen, A, c, rfl, ⟨hci, hbud, hsn, hsz⟩, ⟨hR⟩, ⟨hMS⟩, ⟨hG⟩, ⟨hU⟩, ⟨hH⟩, ⟨hB⟩⟩ := hrel
    have CI := Lib.hid hci
    have BU := Lib.hid hbud
    have SN := Lib.hid hsn
    have SZ := Lib.hid hsz
    have R := Lib.hid hR
    have MS := Lib.hid hMS
    have G := Lib.hid hG
    have U := Lib.hid hU
    have HH := Lib.hid hH
    have B := Lib.hid hB
    clear hci hbud hsn hsz hR hMS hG hU hH hB MS1 G1 U1 H1 BB1 RR1 G0 U0 H0
    by_cases h0 : st.length = 0
    · have hrf : r = false := by
        have h := CI.out
        rcases gk with _ | q
        · rw [circ] at h; cases h
        · rw [circ, if_pos h0] at h
          injection h with h
          exact h.symm
      clear CI
      rw [h0]
      go_wp2_with fail
      try rw [Exit.noGoto_ret]
      go_ret
      exact ⟨by rw [hrf]; rfl, B.out⟩
    · obtain ⟨rs, x, rfl⟩ := snoc_of h0
      have hxs : x.size ≤ maxLen := SZ.out x (by simp)
      have hR1 := Kd.R_reads' R.out
      obtain ⟨ad, rfl, ex⟩ := name_at hR1.2.2 rfl rs.length (by simp)
      rw [List.getElem_append_right (Nat.le_refl _)] at ex
      simp only [Nat.sub_self, List.getElem_cons_zero] at ex
      have hcl : rs.length + 1 ≤ c := by have := hR1.2.1; simpa using this
      have hln : (rs ++ [x]).length = rs.length + 1 := by simp
      have hrl : (rs.length : Int) ≤ 8388608 := by have := BU.out; rw [hln] at this; omega
      have g1 := G.out.cell_at 1 _ rfl
      have g0 := G.out.cell_at 0 _ rfl
      rw [hln]
      clear hR1
      obtain ⟨q, hq⟩ : ∃ q, gk = q + 1 := by
        rcases gk with _ | q
        · have h := CI.out
          rw [circ] at h
          cases h
        · exact ⟨q, rfl⟩
      have hci := CI.out
      rw [hq, circ_succ] at hci
      have CI2 := Lib.hid hci
      have HQ := Lib.hid hq
      have RP := Lib.hid (R_pop R.out)
      have hl1 := HH.out.look u69 (zero4 _) x hxs
      have hl2 := MS.out.look u69 (zero4 _) x hxs
      rw [mset_get] at hl1 hl2
      have hbud2 : Hid (rs.length + ub l seen ≤ 8388608) := Lib.hid (by have := BU.out; rw [hln] at this; omega)
      have hsz2 : Hid (∀ u ∈ rs, u.size ≤ maxLen) := Lib.hid (fun u hu => SZ.out u (by simp [hu]))
      clear hci hq
      by_cases hxH : x ∈ H
      · rw [decide_eq_true hxH] at hl1
        have CI3 := Lib.hid (show circ l H name q rs seen = some r by have h := CI2.out; rwa [if_pos (Or.inl hxH)] at h)
        clear CI CI2
        go_wp2_with fail
        go_roundg q
        case measure => have := HQ.out; omega
        case rel => exact ⟨rs, seen, some ad, c, rfl, ⟨CI3.out, hbud2.out, by have := SN.out; have := HQ.out; omega, hsz2.out⟩, ⟨RP.out⟩, ⟨MS.out⟩, ⟨G.out⟩, ⟨U.out⟩, ⟨HH.out⟩, ⟨B.out⟩⟩
      · rw [decide_eq_false hxH] at hl1
        by_cases hxS : x ∈ seen
        · rw [decide_eq_true hxS] at hl2
          have CI3 := Lib.hid (show circ l H name q rs seen = some r by have h := CI2.out; rwa [if_pos (Or.inr hxS)] at h)
          clear CI CI2
          go_wp2_with fail
          go_roundg q
          case measure => have := HQ.out; omega
          case rel => exact ⟨rs, seen, some ad, c, rfl, ⟨CI3.out, hbud2.out, by have := SN.out; have := HQ.out; omega, hsz2.out⟩, ⟨RP.out⟩, ⟨MS.out⟩, ⟨G.out⟩, ⟨U.out⟩, ⟨HH.out⟩, ⟨B.out⟩⟩
        · rw [decide_eq_false hxS] at hl2
          have hci3 := CI2.out
          rw [if_neg (show ¬ (x ∈ H ∨ x ∈ seen) from fun h => h.elim hxH hxS)] at hci3
          have CI4 := Lib.hid hci3
          clear CI CI2 hci3
          by_cases hxn : x = name
          · have hrt : r = true := by
              have h := CI4.out
              rw [if_pos hxn] at h
              injection h with h
              exact h.symm
            have hxe := tl_true hxn
            have HXN := Lib.hid hxn
            clear CI4 hxn
            go_wp2_with fail
            try rw [Exit.noGoto_ret]
            go_ret
            exact ⟨by rw [hrt]; rfl, B.out⟩
          · have CI3 := Lib.hid (show circ l H name q (rs ++ uses l x) (x :: seen) = some r by have h := CI4.out; rwa [if_neg hxn] at h)
            have hxe := tl_false hxn
            have hst := ub_step l seen x hxS
            have hbud3 : Hid ((rs ++ uses l x).length + ub l (x :: seen) ≤ 8388608) := Lib.hid (by have := hbud2.out; rw [List.length_append]; omega)
            have hn5 : seen.length < maxLen := by have := SN.out; have := NB.out; unfold maxLen; omega
            obtain ⟨w3, hrun3, hm3, ho3⟩ := MS.out.update u69 hn5 x hxs (.bool true)
            rw [mset_cons] at hm3
            have M3 := Lib.hid hm3
            have R3 := Lib.hid (show Kd.string.R 9 w3 w.heap.size (fun _ => True) (.slice (some ad) rs.length c) rs from Kd.R_of_own (World.ownsRow.kept (row := some w.heap.size) (Kd.own_of_R RP.out) ⟨ho3.os, ho3.tape, ho3.output, ho3.size, fun k hk hn => ho3.block k hk (fun e => hn (by rw [e]))⟩ (.inr (OwnS.ne (l := rs) (Kd.own_of_R RP.out) MS.out))) (fun _ _ => trivial))
            have G3 := Lib.hid (G.out.keep ho3 (by have := hNE.out; omega))
            have U3 := Lib.hid (U.out.step ho3 hNE.out.1)
            have H3 := Lib.hid (HH.out.step ho3 hNE.out.2.1)
            have B3 := Lib.hid (((Only.of_below B.out (fun k => k = w.heap.size)).step ho3 (fun _ _ h => h)).below (B := w.heap.size) (Nat.le_refl _) (fun q hq h => by omega))
            obtain ⟨Ax, cx, hvx, hCx, hcx, hflx⟩ := UMH.out.get x
            have hl3 := U3.out.look u68 (zero23 _) x hxs
            rw [hvx] at hl3
            have g03 := G3.out.cell_at 0 _ rfl
            have HCX := Lib.hid (Kd.C_below hCx ((HB0.out.trans (B3.out.mono HB0.out.size))))
            have hlenx : rs.length + (uses l x).length ≤ 16777216 := by have := hbud2.out; have := hul.out x; omega
            have HLX := Lib.hid hlenx
            have USZ := Lib.hid (uses_size HF.out x)
            clear CI4 hxn hst hm3 ho3 hCx hvx hlenx
            go_wp2_with (first
              | ((with_reducible refine gate_builtin (b := .append) (xs := #[.tmp 48, .tmp 54]) rfl ?_); at_builtin; go_loud (refine Kd.R_append_rows Kd.string (w0 := w3) w.heap.size rfl (.tmp 48) (.tmp 54) 23 9 (.string ByteArray.empty) 16 rfl (by kernel_rfl) info9m rfl (by decide) (by decide) (.slice (some ad) rs.length c) rs (uses l x) Ax (uses l x).length cx (fun _ => True) (fun _ => False) rfl rfl R3.out HCX.out (fun _ _ h => h) (fun _ h => h.elim) (fun _ _ => trivial) (Below.refl _ _) B3.out.size (by have := HLX.out; omega) ?_); intro v4 w4 r4 b4 g4 _
                 obtain ⟨A4, c4, rfl⟩ := Kd.R_slice r4
                 have R4 := Lib.hid r4
                 have M4 := Lib.hid (M3.out.step (Only.of_grown g4) (fun h => OwnS.ne (l := rs) (Kd.own_of_R R3.out) M3.out h.symm))
                 have U4 := Lib.hid (U3.out.step (Only.of_grown g4) (fun h => OwnS.ne (l := rs) (Kd.own_of_R R3.out) U3.out h.symm))
                 have H4 := Lib.hid (H3.out.step (Only.of_grown g4) (fun h => OwnS.ne (l := rs) (Kd.own_of_R R3.out) H3.out h.symm))
                 have G4 := Lib.hid (G3.out.keep (Only.of_grown g4) (fun h => by have h1 := (World.ownsRow.lt (Kd.own_of_R R3.out) _ h.symm).1; have := hNE.out; omega))
                 have B4 := Lib.hid (B3.out.trans b4)
                 clear r4 b4 g4)
              | fail)
            go_roundg q
            case measure => have := HQ.out; omega
            case rel => exact ⟨rs ++ uses l x, x :: seen, A4, c4, (by simp), ⟨CI3.out, hbud3.out, by have := SN.out; have := HQ.out; simp; omega, fun u hu => by rcases List.mem_append.1 hu with h | h; exact hsz2.out u h; exact USZ.out u h⟩, ⟨R4.out⟩, ⟨M4.out⟩, ⟨G4.out⟩, ⟨U4.out⟩, ⟨H4.out⟩, ⟨B4.out⟩⟩
end Go.Proofs.Ytlphpmdmlcphbaa.Or
