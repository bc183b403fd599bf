/- Seat E: maps.Clone; net.sort. -/
import Derived.Test.YtlphpmdmlcphbaaOr10
import Derived.Shelf.Lay
import Derived.Shelf.SlMaps.Clone
import Derived.Ground.SlmcProg
namespace Go.Proofs
open Go.Shelf
shelf_lay_g SlLaysW.n5 Slmc 5 at Try 39 as Try.cloneM
end Go.Proofs
namespace Go.Proofs.Ytlphpmdmlcphbaa.Or
open Go Go.RowKit Go.Proofs.Ytlphpmdmlcphbaa.Mem Go.Proofs.YtlphpmdmlcphbaaW.PrintWords Go.Maps Go.Proofs.Ytlphpmdmlcphbaa.Om
set_option linter.unusedVariables false
set_option linter.unusedSimpArgs false
set_option maxRecDepth 100000
set_option maxHeartbeats 4000000
theorem clone_m (b n : Nat) (m : ByteArray → Option Value) (w : World) (h : Mp w b n m) : Calls Try.prog 39 #[.map (some b)] w fun e w' => e = .returned (.map (some w.heap.size)) ∧ Mp w' w.heap.size n m ∧ Below w.heap.size w w' := by
  obtain ⟨D, hown, hD⟩ := h
  have hcon := AnyW.maps_Clone_owns Try.cloneM 9 Om.vR b n D w hown
  change Calls Try.prog 39 _ _ _ at hcon
  refine hcon.mono ?_
  rintro e w' ⟨rfl, h1, _, hB⟩
  exact ⟨rfl, ⟨D, h1, hD⟩, hB⟩
/-- A name that may come next. -/
def Rdy (l : List Vo) (D : List ByteArray) (x : ByteArray) : Prop := x ∉ D ∧ ∀ u ∈ uses l x, u ∈ D
noncomputable instance rdyDec (l : List Vo) (D : List ByteArray) (x : ByteArray) : Decidable (Rdy l D x) := Classical.propDecidable _
/-- The first of a list that may come next. -/
noncomputable def pick (l : List Vo) (D : List ByteArray) : List ByteArray → Option ByteArray
  | [] => none
  | x :: r => if Rdy l D x then some x else pick l D r
theorem pick_at (l : List Vo) (D : List ByteArray) : ∀ (all : List ByteArray) (i : Nat) (hi : i < all.length), (∀ x ∈ all.take i, ¬ Rdy l D x) → Rdy l D all[i] → pick l D all = some all[i]
  | x :: r, 0, _, _, h => by unfold pick; exact if_pos h
  | x :: r, i + 1, hi, h0, h => by
    unfold pick
    rw [if_neg (h0 x (by simp))]
    exact pick_at l D r i (by simpa using hi) (fun y hy => h0 y (by simp [hy])) h
theorem pick_none (l : List Vo) (D : List ByteArray) : ∀ (all : List ByteArray), (∀ x ∈ all, ¬ Rdy l D x) → pick l D all = none
  | [], _ => rfl
  | x :: r, h => by
    unfold pick
    rw [if_neg (h x (by simp))]
    exact pick_none l D r (fun y hy => h y (by simp [hy]))
/-- Names, each behind what it uses, the first of those that may come first. -/
noncomputable def topo (l : List Vo) (H all : List ByteArray) : Nat → List ByteArray → Option (List ByteArray)
  | 0, _ => none
  | n + 1, out => if all.length ≤ out.length then some out else match pick l (out.reverse ++ H) all with | some x => topo l H all n (out ++ [x]) | none => none
theorem sort_c (g mu mh nu nh : Nat) (m : ByteArray → Option Value) (l : List Vo) (H : List ByteArray) (Aw : Option Addr) (cw : Nat) (all : List ByteArray) (w0 w : World) (hg : Blk w g 71 [.map (some mu), .map (some mh)]) (hU : Mp w mu nu m) (hUM : UM w0 l m) (hb0 : Below w0.heap.size w0 w) (hH : Mp w mh nh (mset H))
    (hF : Fine l) (hW : Kd.string.C w Aw all.length all) (hWc : all.length ≤ cw) (hWs : (∀ u ∈ all, u.size ≤ maxLen) ∧ all.length ≤ 16777216) (hnh : nh ≤ 8388608) (res : List ByteArray) (n : Nat) (hr : topo l H all n [] = some res) :
    Calls Try.prog 22 #[.pointer (some ⟨g, 0, none⟩), .slice Aw all.length cw] w fun e w' => ∃ v, e = .returned v ∧ OwnS w' w.heap.size v res ∧ Below w.heap.size w w' := by
  have G0 := Lib.hid hg
  have U0 := Lib.hid hU
  have UMH := Lib.hid hUM
  have H0 := Lib.hid hH
  have HF := Lib.hid hF
  have HB0 := Lib.hid hb0
  have HWS := Lib.hid hWs
  have HW := Lib.hid hW
  have HWC := Lib.hid hWc
  have HNH := Lib.hid hnh
  have HR := Lib.hid hr
  have g1 := hg.cell_at 1 _ rfl
  have HCL := Lib.hid (clone_m mh nh (mset H) w hH)
  clear hg hU hUM hH hF hb0 hW hWs hWc hnh hr
  go_enter Try.func22, Try.ntmps22
  go_wp2_with (first
    | (go_at_call 39; go_loud (refine HCL.out.mono ?_); rintro e w1 ⟨rfl, hm1, hb1⟩; have M1 := Lib.hid hm1; have B1 := Lib.hid hb1; clear hm1 hb1)
    | fail)
  clear g1 HCL
  go_loopg [5] n (fun q ov wr => ∃ (out : List ByteArray) (Ao : Option Addr) (co : Nat), ov = .slice Ao out.length co ∧ Aside1 (topo l H all q out = some res) ∧ Aside1 (OwnS wr w.heap.size (.slice Ao out.length co) out) ∧ Aside1 (Mp wr w.heap.size (nh + out.length) (mset (out.reverse ++ H))) ∧ Aside1 (Below w.heap.size w wr))
  case atStart => exact ⟨[], none, 0, rfl, ⟨HR.out⟩, ⟨World.ownsRow_nil _ _ _ _⟩, ⟨M1.out⟩, ⟨B1.out⟩⟩
  case round =>
    obtain ⟨out, Ao, co, rfl, ⟨htp⟩, ⟨hOO⟩, ⟨hMM⟩, ⟨hB⟩⟩ := hrel
    have TP := Lib.hid htp
    have OO := Lib.hid hOO
    have MM := Lib.hid hMM
    have B := Lib.hid hB
    clear htp hOO hMM hB M1 B1
    obtain ⟨q, hq⟩ : ∃ q, gk = q + 1 := by
      rcases gk with _ | q
      · have h := TP.out
        rw [topo] at h
        cases h
      · exact ⟨q, rfl⟩
    subst hq
    obtain ⟨wo, hwo⟩ : ∃ wo, wo = wr := ⟨_, rfl⟩
    subst hwo
    have hli : (all.length : Int) ≤ 16777216 := by have := HWS.out.2; omega
    by_cases hlt : out.length < all.length
    · have hlti : (out.length : Int) < (all.length : Int) := by omega
      have hpk : Hid (∃ x, pick l (out.reverse ++ H) all = some x ∧ topo l H all q (out ++ [x]) = some res) := Lib.hid (by
        have h := TP.out
        rw [topo, if_neg (by omega)] at h
        cases hp : pick l (out.reverse ++ H) all with
        | none => rw [hp] at h; cases h
        | some x => rw [hp] at h; exact ⟨x, rfl, h⟩)
      clear TP
      have HLT := Lib.hid hlt
      have hBs := B.out.size
      have BS := Lib.hid hBs
      clear hBs
      have HWo := Lib.hid (Kd.C_below HW.out B.out)
      have hGo : Blk wo g 71 [.map (some mu), .map (some mh)] := G0.out.below B.out G0.out.lt
      have g0 := hGo.cell_at 0 _ rfl
      have Uo := Lib.hid (U0.out.below B.out U0.out.lt)
      have D0 := Lib.hid (show ∃ D, D = out.reverse ++ H from ⟨_, rfl⟩)
      obtain ⟨D, hD⟩ := D0.out
      rw [← hD] at hpk MM
      have HD := Lib.hid hD
      clear hD D0 hGo
      go_wp2_with fail
      go_step3
      go_wp2_with fail
      go_step3
      go_wp2_with fail
      obtain ⟨go, hgo⟩ : ∃ go, go = q := ⟨_, rfl⟩
      subst hgo
      go_loopg [5, 23] all.length (fun mm ov iv wz => ∃ i : Nat, iv = .int .i64 i ∧ ov = .slice Ao out.length co ∧ wz = wo ∧ Aside1 (i + mm = all.length ∧ ∀ x ∈ all.take i, ¬ Rdy l D x))
      case atStart => exact ⟨0, rfl, rfl, rfl, ⟨by omega, by simp⟩⟩
      case round =>
        obtain ⟨i, rfl, rfl, hwz, ⟨hi, hnr⟩⟩ := hrel
        rw [hwz]
        clear hwz
        have HI := Lib.hid hi
        have NR := Lib.hid hnr
        clear hi hnr
        have hwi : Hid (wrap64 ((i : Int) + 1) = ((i + 1 : Nat) : Int)) := Lib.hid (by have := HI.out; have := HWS.out.2; unfold wrap64; omega)
        by_cases hil : i < all.length
        · have hii : (i : Int) < (all.length : Int) := by omega
          obtain ⟨ad, hAd, ex⟩ := name_at HWo.out rfl i hil
          obtain ⟨x, hx⟩ : ∃ x, all[i] = x := ⟨_, rfl⟩
          rw [hx] at ex
          have HX := Lib.hid hx
          subst hAd
          have hxs : x.size ≤ maxLen := HWS.out.1 x (hx ▸ List.getElem_mem hil)
          have hl1 := MM.out.look u69 (zero4 _) x hxs
          rw [mset_get] at hl1
          have hNR2 : Hid (¬ Rdy l D x → ∀ y ∈ all.take (i + 1), ¬ Rdy l D y) := Lib.hid (fun hn y hy => by
            rw [List.take_succ_eq_append_getElem hil, hx] at hy
            rcases List.mem_append.1 hy with h | h
            · exact NR.out y h
            · rw [List.mem_singleton.1 h]; exact hn)
          have HIL := Lib.hid hil
          clear hx
          by_cases hxD : x ∈ D
          · rw [decide_eq_true hxD] at hl1
            have hnx : Hid (¬ Rdy l D x) := Lib.hid (fun h => h.1 hxD)
            clear hxD
            go_wp2_with fail
            go_roundg (gk - 1)
            case measure => have := HI.out; omega
            case rel => exact ⟨i + 1, (by simp), rfl, rfl, ⟨by have := HI.out; omega, hNR2.out hnx.out⟩⟩
          · rw [decide_eq_false hxD] at hl1
            obtain ⟨Ax, cx, hvx, hCx, hcx, hflx⟩ := UMH.out.get x
            have hl3 := Uo.out.look u68 (zero23 _) x hxs
            rw [hvx] at hl3
            have HCX := Lib.hid (Kd.C_below hCx ((HB0.out.trans (B.out.mono HB0.out.size))))
            have USZ := Lib.hid (uses_size HF.out x)
            obtain ⟨us, hus⟩ : ∃ us, us = uses l x := ⟨_, rfl⟩
            rw [← hus] at hvx hcx hl3 HCX USZ
            have HUS := Lib.hid hus
            have HXD := Lib.hid hxD
            have hul : (us.length : Int) ≤ 4194304 := by have h1 := uses_len l x; have h2 := HF.out.2.1; rw [← hus] at h1; omega
            obtain ⟨g2, hgo⟩ : ∃ g2, g2 = gk := ⟨_, rfl⟩
            subst hgo
            clear hCx hvx hus hxD
            go_wp2_with fail
            go_loopg [37] us.length (fun mm jv wz => ∃ j : Nat, jv = .int .i64 j ∧ wz = wo ∧ Aside1 (j + mm = us.length ∧ ∀ u ∈ us.take j, u ∈ D))
            case atStart => exact ⟨0, rfl, rfl, ⟨by omega, by simp⟩⟩
            case round =>
              obtain ⟨j, rfl, hwz, ⟨hj, hin⟩⟩ := hrel
              rw [hwz]
              clear hwz
              have HJ := Lib.hid hj
              have IN := Lib.hid hin
              clear hj hin
              by_cases hjl : j < us.length
              · have hji : (j : Int) < (us.length : Int) := by omega
                obtain ⟨au, hAu, eu⟩ := name_at HCX.out rfl j hjl
                obtain ⟨u, hu⟩ : ∃ u, us[j] = u := ⟨_, rfl⟩
                rw [hu] at eu
                subst hAu
                have hus' : u.size ≤ maxLen := USZ.out u (hu ▸ List.getElem_mem hjl)
                have hl4 := MM.out.look u69 (zero4 _) u hus'
                rw [mset_get] at hl4
                have HU := Lib.hid hu
                clear hu
                by_cases huD : u ∈ D
                · rw [decide_eq_true huD] at hl4
                  have hIN2 : Hid (∀ y ∈ us.take (j + 1), y ∈ D) := Lib.hid (fun y hy => by
                    rw [List.take_succ_eq_append_getElem hjl, HU.out] at hy
                    rcases List.mem_append.1 hy with h | h
                    · exact IN.out y h
                    · rw [List.mem_singleton.1 h]; exact huD)
                  clear huD
                  go_wp2_with fail
                  go_roundg (gk - 1)
                  case measure => have := HJ.out; omega
                  case rel => exact ⟨j + 1, (by simp), rfl, ⟨by have := HJ.out; omega, hIN2.out⟩⟩
                · rw [decide_eq_false huD] at hl4
                  have hnx : Hid (¬ Rdy l D x) := Lib.hid (fun h => huD (h.2 u (by rw [← HUS.out, ← HU.out]; exact List.getElem_mem hjl)))
                  clear huD
                  go_wp2_with fail
                  go_roundg (g2 - 1)
                  case measure => have := HI.out; omega
                  case rel => exact ⟨i + 1, (by simp), rfl, rfl, ⟨by have := HI.out; omega, hNR2.out hnx.out⟩⟩
              · have hji : ¬ (j : Int) < (us.length : Int) := by omega
                have hrx : Hid (Rdy l D x) := Lib.hid ⟨HXD.out, fun u hu => IN.out u (by rw [List.take_of_length_le (by omega), HUS.out]; exact hu)⟩
                have hnx : Hid (topo l H all go (out ++ [x]) = some res) := Lib.hid (by
                  obtain ⟨x', h1, h2⟩ := hpk.out
                  rw [pick_at l D all i HIL.out NR.out (by rw [HX.out]; exact hrx.out), HX.out] at h1
                  injection h1 with h1
                  rw [h1]; exact h2)
                have hn5 : nh + out.length < maxLen := by have := HNH.out; have := HLT.out; have := HWS.out.2; unfold maxLen; omega
                obtain ⟨w3, hrun3, hm3, ho3⟩ := MM.out.update u69 hn5 x hxs (.bool true)
                rw [mset_cons] at hm3
                have M3 := Lib.hid hm3
                have O3 := Lib.hid (OwnS.only OO.out MM.out ho3)
                have B3 := Lib.hid (((Only.of_below B.out (fun k => k = w.heap.size)).step ho3 (fun _ _ h => h)).below (B := w.heap.size) (Nat.le_refl _) (fun q hq h => by omega))
                clear hm3 ho3
                go_wp2_with (first
                  | ((with_reducible refine gate_builtin (b := .append) (xs := #[.tmp 48, .tmp 50]) rfl ?_); at_builtin; go_loud (refine Kd.R_append Kd.string (w0 := w3) w.heap.size rfl (.tmp 48) (.tmp 50) 23 9 (.string ByteArray.empty) 16 rfl (by kernel_rfl) info9m rfl (by decide) (by decide) (.slice Ao out.length co) out x [.string x] (fun _ => True) (fun _ => False) rfl rfl rfl (fun _ h => h.elim) (fun _ _ => trivial) (Kd.R_of_own O3.out (fun _ _ => trivial)) (Below.refl _ _) B3.out.size (by have := HLT.out; have := HWS.out.2; omega) ?_); intro v4 w4 r4 b4 g4 at4
                     obtain ⟨A4, c4, rfl⟩ := Kd.R_slice r4
                     have O4 := Lib.hid (show OwnS w4 w.heap.size (.slice A4 (out ++ [x]).length c4) (out ++ [x]) from Kd.own_of_R r4)
                     have M4 := Lib.hid (M3.out.step (Only.of_grown g4) (fun h => OwnS.ne O3.out M3.out h.symm))
                     have B4 := Lib.hid (B3.out.trans b4)
                     clear r4 b4 g4 at4)
                  | fail)
                go_roundg go
                case measure => omega
                case rel => exact ⟨out ++ [x], A4, c4, (by simp), ⟨hnx.out⟩, ⟨O4.out⟩, ⟨by have h := M4.out; rw [HD.out] at h; rw [List.reverse_append, List.reverse_singleton, List.singleton_append, List.length_append, List.length_singleton, ← Nat.add_assoc]; exact h⟩, ⟨B4.out⟩⟩
        · have hii : ¬ (i : Int) < (all.length : Int) := by omega
          exfalso
          obtain ⟨x, h1, _⟩ := hpk.out
          rw [pick_none l D all (by have h := NR.out; rwa [List.take_of_length_le (by omega)] at h)] at h1
          cases h1
    · have hlti : ¬ ((out.length : Int) < (all.length : Int)) := by omega
      have hres : Hid (out = res) := Lib.hid (by
        have h := TP.out
        rw [topo, if_pos (by omega)] at h
        injection h with h)
      clear TP
      go_wp2_with fail
      go_ret
      exact ⟨_, rfl, by have := OO.out; rw [hres.out] at this ⊢; exact this, B.out⟩
end Go.Proofs.Ytlphpmdmlcphbaa.Or
