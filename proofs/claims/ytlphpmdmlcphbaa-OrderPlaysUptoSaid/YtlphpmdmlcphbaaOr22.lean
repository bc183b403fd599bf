/- Seat E: OrderStands, walked. -/
import Derived.Test.YtlphpmdmlcphbaaOr21
namespace Go.Proofs.Ytlphpmdmlcphbaa.Or
open Go Go.RowKit Go.Proofs.Ytlphpmdmlcphbaa.Mem Go.Proofs.YtlphpmdmlcphbaaW.PrintWords Go.Maps Go.Proofs.Ytlphpmdmlcphbaa.Om
set_option linter.unusedVariables false
set_option linter.unusedSimpArgs false
set_option maxRecDepth 100000
set_option maxHeartbeats 4000000
theorem atV_neg {l : List ByteArray} {s : ByteArray} : atV l s < 0 ↔ s ∉ l := by
  unfold atV
  cases h : l.findIdx? (fun x => decide (x = s)) with
  | none =>
    rw [List.findIdx?_eq_none_iff] at h
    refine ⟨fun _ hs => ?_, fun _ => by dsimp only; omega⟩
    simpa using h s hs
  | some i =>
    rw [List.findIdx?_eq_some_iff_getElem] at h
    obtain ⟨hi, h1, _⟩ := h
    refine ⟨fun h => by dsimp only at h; omega, fun hs => absurd ?_ hs⟩
    have : l[i] = s := by simpa using h1
    rw [← this]; exact List.getElem_mem hi
theorem atV_lt {l : List ByteArray} {s : ByteArray} {i : Nat} (h : s ∈ l.take i) : atV l s < i := by
  unfold atV
  cases h2 : l.findIdx? (fun x => decide (x = s)) with
  | none =>
    rw [List.findIdx?_eq_none_iff] at h2
    have := h2 s (List.mem_of_mem_take h)
    simp at this
  | some j =>
    rw [List.findIdx?_eq_some_iff_getElem] at h2
    obtain ⟨hj, h1, h3⟩ := h2
    obtain ⟨k, hk, e⟩ := List.mem_take_iff_getElem.1 h
    have hk2 := (Nat.lt_min.1 hk).1
    by_cases hjk : j ≤ k
    · dsimp only; omega
    · have := h3 k (by omega)
      simp [e] at this
theorem atV_take {l : List ByteArray} {s : ByteArray} {i : Nat} (h : atV l s < i) (hs : s ∈ l) : s ∈ l.take i := by
  unfold atV at h
  cases h2 : l.findIdx? (fun x => decide (x = s)) with
  | none =>
    rw [List.findIdx?_eq_none_iff] at h2
    have := h2 s hs
    simp at this
  | some j =>
    rw [h2] at h
    rw [List.findIdx?_eq_some_iff_getElem] at h2
    obtain ⟨hj, h1, h3⟩ := h2
    have e : l[j] = s := by simpa using h1
    dsimp only at h
    exact List.mem_take_iff_getElem.2 ⟨j, Nat.lt_min.2 ⟨by omega, hj⟩, e⟩
theorem Res.shape {l : List Vo} {wl hv : List ByteArray} {o : List ByteArray} {x : ByteArray} {e : Int} (h : Res l wl hv (o, x, e)) : (e = 0 ∧ x = ByteArray.empty ∧ Out l wl hv o) ∨ (o = [] ∧ (e = 14 ∨ e = 6 ∨ e = 15)) := by
  cases h with
  | twice _ => exact .inr ⟨rfl, .inl rfl⟩
  | none _ _ _ _ => exact .inr ⟨rfl, .inr (.inl rfl)⟩
  | cycle _ _ _ _ _ _ => exact .inr ⟨rfl, .inr (.inr rfl)⟩
  | ok o ho _ => exact .inl ⟨rfl, rfl, ho⟩
abbrev Names (l : List ByteArray) : Prop := (∀ u ∈ l, u.size ≤ maxLen) ∧ l.length ≤ 1048576
theorem stands_c (A : Option Addr) (c : Nat) (l : List Vo) (B : Option Addr) (d : Nat) (wl : List ByteArray) (D : Option Addr) (g : Nat) (hv : List ByteArray) (w : World) (hC : kV.C w A l.length l) (hc : l.length ≤ c) (hF : Fine l)
    (hW : Kd.string.C w B wl.length wl) (hWn : Names wl) (hH : Kd.string.C w D hv.length hv) (hHn : Names hv) :
    Calls Try.prog 3 #[.slice A l.length c, .slice B wl.length d, .slice D hv.length g] w fun e w' => e = .returned (.bool true) ∧ Below w.heap.size w w' := by
  obtain ⟨⟨o, x, e⟩, hr, hR⟩ := sortV_res hF wl hv (by have := hWn.2; omega)
  have hS := hR.shape
  have HCL := Lib.hid hC
  have HF := Lib.hid hF
  have HW := Lib.hid hW
  have HWN := Lib.hid hWn
  have HH := Lib.hid hH
  have HHN := Lib.hid hHn
  have HR := Lib.hid hr
  have AW := Lib.hid (awake_c w)
  have hll : (l.length : Int) ≤ 4194304 := by have := hF.2.2; omega
  have hwl : (wl.length : Int) ≤ 1048576 := by have := hWn.2; omega
  clear hC hc hF hW hWn hH hHn hr hR
  rcases hS with ⟨rfl, rfl, HO⟩ | ⟨rfl, rfl | rfl | rfl⟩
  · have OUT := Lib.hid HO
    have hol : (o.length : Int) ≤ 4194304 := by have := HO.len; omega
    clear HO
    go_enter Try.func3, Try.ntmps3
    go_wp2_with (first
      | (go_at_call 7; with_reducible refine AW.out.mono ?_; rintro en w0 ⟨rfl, b0⟩; have B0 := Lib.hid b0; have VO := Lib.hid (vocabs_c A c l w0 (Kd.C_below HCL.out b0) HF.out); clear b0)
      | (go_at_call 9; with_reducible refine VO.out.mono ?_; rintro en w1 ⟨A1, c1, rfl, r1, b1⟩; have R1 := Lib.hid r1; have B1 := Lib.hid (B0.out.trans (b1.mono B0.out.size)); have OW := Lib.hid (own_c B d wl w1 (Kd.C_below HW.out B1.out) (by have := HWN.out.2; omega)); clear r1 b1)
      | (go_at_call 10; with_reducible refine OW.out.mono ?_; rintro en w2 ⟨v2, rfl, o2, b2⟩; obtain ⟨A2, c2, rfl⟩ := OwnS.slice o2; have O2 := Lib.hid o2; have BB2 := Lib.hid b2; have B2 := Lib.hid (B1.out.trans (b2.mono B1.out.size)); have OH := Lib.hid (own_c D g hv w2 (Kd.C_below HH.out B2.out) (by have := HHN.out.2; omega)); clear o2 b2)
      | (go_at_call 10; with_reducible refine OH.out.mono ?_; rintro en w3 ⟨v3, rfl, o3, b3⟩; obtain ⟨A3, c3, rfl⟩ := OwnS.slice o3; have B3 := Lib.hid (B2.out.trans (b3.mono B2.out.size))
         have SO := Lib.hid (Sort_c A1 c1 l A2 c2 wl A3 c3 hv w3 ((VC_of_R R1.out).1.below (BB2.out.trans (b3.mono BB2.out.size))) (VC_of_R R1.out).2 HF.out (Kd.C_below (OwnS.reads O2.out).1 b3) (OwnS.reads O2.out).2.1 (OwnS.reads O2.out).2.2 ⟨HWN.out.1, by have := HWN.out.2; omega⟩ (OwnS.reads o3).1 (OwnS.reads o3).2.1 ⟨HHN.out.1, by have := HHN.out.2; omega⟩ _ _ _ HR.out)
         clear o3 b3)
      | (go_at_call 8; with_reducible refine SO.out.mono ?_; rintro en w4 ⟨v4, rfl, o4, b4⟩; obtain ⟨A4, c4, rfl⟩ := OwnS.slice o4; have O4 := Lib.hid o4; have B4 := Lib.hid (B3.out.trans (b4.mono B3.out.size)); clear o4 b4)
      | fail)
    have AT1 : Hid (∀ (wz : World) (s : ByteArray), Below w4.heap.size w4 wz → Calls Try.prog 11 #[.slice A4 o.length c4, .string s] wz fun e w' => e = .returned (.int .i64 (atV o s)) ∧ w' = wz) := Lib.hid (fun wz s hb => at_c A4 c4 o s wz (Kd.C_below (OwnS.reads O4.out).1 hb) (by omega))
    have AT2 : Hid (∀ (wz : World) (s : ByteArray), Below w.heap.size w wz → Calls Try.prog 11 #[.slice D hv.length g, .string s] wz fun e w' => e = .returned (.int .i64 (atV hv s)) ∧ w' = wz) := Lib.hid (fun wz s hb => at_c D g hv s wz (Kd.C_below HH.out hb) (by have := HHN.out.2; omega))
    go_loopg [10] wl.length (fun mm iv wr => ∃ i : Nat, iv = .int .i64 i ∧ wr = w4 ∧ Aside1 (i + mm = wl.length))
    case atStart => exact ⟨0, rfl, rfl, ⟨by omega⟩⟩
    case round =>
      obtain ⟨i, rfl, hwz, ⟨hi⟩⟩ := hrel
      rw [hwz]
      clear hwz
      have HI := Lib.hid hi
      clear hi
      have hil0 : (i : Int) ≤ 1048576 := by have := HI.out; omega
      by_cases hil : i < wl.length
      · have hii : (i : Int) < (wl.length : Int) := by omega
        obtain ⟨ad, hAd, ex⟩ := name_at (Kd.C_below HW.out B4.out) rfl i hil
        obtain ⟨s, hs⟩ : ∃ s, wl[i] = s := ⟨_, rfl⟩
        rw [hs] at ex
        subst hAd
        have hsm : s ∈ wl := hs ▸ List.getElem_mem hil
        have K1 := Lib.hid (AT1.out w4 s (Below.refl _ _))
        have K2 := Lib.hid (AT2.out w4 s B4.out)
        have hor : Hid (atV o s < 0 → ¬ atV hv s < 0) := Lib.hid (fun h h2 => by
          rw [atV_neg] at h h2
          exact h ((OUT.out.all s).2 (.base s hsm (fun h' => h2 (List.mem_reverse.1 h')))))
        clear hs hsm
        generalize atV o s = p at *
        generalize atV hv s = q at *
        by_cases hp : p < 0
        · have hq := hor.out hp
          go_wp2_with (first
            | (go_at_call 11; with_reducible refine K1.out.mono ?_; rintro en wx ⟨rfl, hwx⟩; rw [hwx]; clear hwx)
            | (go_at_call 11; with_reducible refine K2.out.mono ?_; rintro en wx ⟨rfl, hwx⟩; rw [hwx]; clear hwx)
            | fail)
          go_roundg (gk - 1)
          case measure => have := HI.out; omega
          case rel => exact ⟨i + 1, (by simp), rfl, ⟨by have := HI.out; omega⟩⟩
        · go_wp2_with (first
            | (go_at_call 11; with_reducible refine K1.out.mono ?_; rintro en wx ⟨rfl, hwx⟩; rw [hwx]; clear hwx)
            | fail)
          go_roundg (gk - 1)
          case measure => have := HI.out; omega
          case rel => exact ⟨i + 1, (by simp), rfl, ⟨by have := HI.out; omega⟩⟩
      · have hii : ¬ (i : Int) < (wl.length : Int) := by omega
        go_wp2_with fail
        go_loopg [11] o.length (fun mm iv wr => ∃ i : Nat, iv = .int .i64 i ∧ Aside1 (i + mm = o.length) ∧ Aside1 (Below w4.heap.size w4 wr))
        case atStart => exact ⟨0, rfl, ⟨by omega⟩, ⟨Below.refl _ _⟩⟩
        case round =>
          obtain ⟨i, rfl, ⟨hi⟩, ⟨hB⟩⟩ := hrel
          have HI := Lib.hid hi
          have B5 := Lib.hid hB
          have B6 := Lib.hid (B4.out.trans (hB.mono B4.out.size))
          clear hi hB
          have hil0 : (i : Int) ≤ 4194304 := by have := HI.out; omega
          by_cases hio : i < o.length
          · have hioi : (i : Int) < (o.length : Int) := by omega
            obtain ⟨ad, hAd, ex⟩ := name_at (Kd.C_below (OwnS.reads O4.out).1 B5.out) rfl i hio
            obtain ⟨y, hy⟩ : ∃ y, o[i] = y := ⟨_, rfl⟩
            rw [hy] at ex
            have hA4 := hAd
            subst hAd
            have hnew := OUT.out.ord.new i hio
            rw [hy] at hnew
            have k1 := AT1.out wr y B5.out
            rw [atV_some i hio hy (fun z hz e => hnew.1 (e ▸ hz))] at k1
            have K1 := Lib.hid k1
            have K2 := Lib.hid (AT2.out wr y B6.out)
            have hq : Hid (atV hv y < 0) := Lib.hid (atV_neg.2 (fun h => hnew.2 (List.mem_reverse.2 h)))
            have HY := Lib.hid hy
            have HUS : Hid (∀ v ∈ l, v.1 = y → uses l y = v.2) := Lib.hid (fun v hv he => by
              have h := usesOf_at OUT.out.dist hv
              rw [he] at h
              unfold uses
              rw [h]
              rfl)
            have HUSE : Hid (∀ u ∈ uses l y, u ∈ o.take i ∨ u ∈ hv) := Lib.hid (fun u hu => by
              rcases OUT.out.ord.use i hio u (by rw [HY.out]; exact hu) with h | h
              · exact .inl h
              · exact .inr (List.mem_reverse.1 h))
            have HDIS : Hid (∀ u ∈ hv, u ∉ o) := Lib.hid (fun u hu ho => ((OUT.out.all u).1 ho).notH (List.mem_reverse.2 hu))
            have HX5 := Lib.hid (show ∀ w', Below wr.heap.size wr w' → w'.cell? (ad.add i) = some (.string y) from fun w' hb => (hb.cell (World.block_lt_of_cell? _ _ ex)).trans ex)
            obtain ⟨q, hqe⟩ : ∃ q, q = atV hv y := ⟨_, rfl⟩
            rw [← hqe] at K2 hq
            have hqn : ¬ (0 ≤ q) := by have := hq.out; omega
            obtain ⟨go, hgo⟩ : ∃ go, go = gk := ⟨_, rfl⟩
            subst hgo
            obtain ⟨w5, hw5⟩ : ∃ w5, w5 = wr := ⟨_, rfl⟩
            subst hw5
            clear hnew k1 hy hqe
            go_wp2_with (first
              | (go_at_call 11; with_reducible refine K1.out.mono ?_; rintro en wx ⟨rfl, hwx⟩; rw [hwx]; clear hwx)
              | (go_at_call 11; with_reducible refine K2.out.mono ?_; rintro en wx ⟨rfl, hwx⟩; rw [hwx]; clear hwx)
              | fail)
            clear ex
            go_loopg [12, 13] l.length (fun mm rv kv wr => ∃ (k : Nat) (rd : Bool), kv = .int .i64 k ∧ rv = .bool rd ∧ Aside1 (k + mm = l.length ∧ (rd = true → ∀ v ∈ l.take k, v.1 = y → ∀ u ∈ v.2, i = 0 ∨ atV o u < (i : Int) - 1)) ∧ Aside1 (Below w5.heap.size w5 wr))
            case atStart => exact ⟨0, true, rfl, rfl, ⟨by omega, by simp⟩, ⟨Below.refl _ _⟩⟩
            case round =>
              obtain ⟨k, rd, rfl, rfl, ⟨hk, hrd⟩, ⟨hB⟩⟩ := hrel
              have HK := Lib.hid hk
              have RD := Lib.hid hrd
              have B7 := Lib.hid hB
              have B8 := Lib.hid (B6.out.trans (hB.mono B6.out.size))
              have ex := HX5.out wr hB
              clear hk hrd hB
              have hkl0 : (k : Int) ≤ 4194304 := by have := HK.out; omega
              by_cases hkl : k < l.length
              · have hkli : (k : Int) < (l.length : Int) := by omega
                obtain ⟨al, Au, cu, hAl, e1, e2, hCu, hcu⟩ := vocab_at HCL.out rfl k hkl
                subst hAl
                obtain ⟨nm, us, hlk⟩ : ∃ nm us, l[k] = (nm, us) := ⟨_, _, rfl⟩
                have hmem : (nm, us) ∈ l := hlk ▸ List.getElem_mem hkl
                rw [hlk] at e1 e2 hCu hcu
                dsimp only at e1 e2 hCu hcu
                have HE1 := Lib.hid (show ∀ w', Below w.heap.size w w' → w'.cell? (al.add (k * 2)) = some (.string nm) from fun w' hb => (hb.cell (World.block_lt_of_cell? _ _ e1)).trans e1)
                have HE2 := Lib.hid (show ∀ w', Below w.heap.size w w' → w'.cell? ⟨(al.add (k * 2)).block, (al.add (k * 2)).off + 1, none⟩ = some (.slice Au us.length cu) from fun w' hb => (hb.cell (p := ⟨(al.add (k * 2)).block, (al.add (k * 2)).off + 1, none⟩) (World.block_lt_of_cell? _ _ e2)).trans e2)
                have HCU := Lib.hid hCu
                have HLK := Lib.hid hlk
                have HMEM := Lib.hid hmem
                have h1 := HE1.out wr B8.out
                have htk : Hid (∀ v ∈ l.take (k + 1), v ∈ l.take k ∨ v = (nm, us)) := Lib.hid (fun v hv => by
                  rw [List.take_succ_eq_append_getElem hkl, HLK.out] at hv
                  rcases List.mem_append.1 hv with h | h
                  · exact .inl h
                  · exact .inr (List.mem_singleton.1 h))
                clear e1 e2 hCu hlk hmem
                by_cases hny : nm = y
                · have hne := tl_true hny
                  have HNY := Lib.hid hny
                  have husl : (us.length : Int) ≤ 4194304 := by have h1 := le_tot HMEM.out; have h2 := HF.out.2.1; dsimp only at h1; omega
                  clear hny
                  go_wp2_with fail
                  go_quiet (fail)
                  have B9 := Lib.hid (show Below w5.heap.size w5 (wr.drewN nq) from (Only.of_below B7.out (fun _ => False)).drewN nq |>.below_all)
                  generalize wr.drewN nq = w6 at *
                  clear h1 ex
                  obtain ⟨g2, hgo⟩ : ∃ g2, g2 = gk := ⟨_, rfl⟩
                  subst hgo
                  go_wp2_with fail
                  go_loopg [12, 14] us.length (fun mm rv jv wr => ∃ (j : Nat) (rd2 : Bool), jv = .int .i64 j ∧ rv = .bool rd2 ∧ wr = w6 ∧ Aside1 (j + mm = us.length ∧ (rd2 = true → rd = true ∧ ∀ u ∈ us.take j, i = 0 ∨ atV o u < (i : Int) - 1)))
                  case atStart => exact ⟨0, rd, rfl, rfl, rfl, ⟨by omega, fun h => ⟨h, by simp⟩⟩⟩
                  case round =>
                    obtain ⟨j, rd2, rfl, rfl, hwz, ⟨hj, hrd2⟩⟩ := hrel
                    rw [hwz]
                    clear hwz
                    have HJ := Lib.hid hj
                    have RD2 := Lib.hid hrd2
                    clear hj hrd2
                    have B10 := Lib.hid (B6.out.trans (B9.out.mono B6.out.size))
                    have h2 := HE2.out w6 B10.out
                    have hjl0 : (j : Int) ≤ 4194304 := by have := HJ.out; omega
                    by_cases hjl : j < us.length
                    · have hjli : (j : Int) < (us.length : Int) := by omega
                      obtain ⟨au, hAu, eu⟩ := name_at (Kd.C_below HCU.out B10.out) rfl j hjl
                      obtain ⟨u, hu⟩ : ∃ u, us[j] = u := ⟨_, rfl⟩
                      rw [hu] at eu
                      subst hAu
                      have hum : u ∈ uses l y := by rw [HUS.out _ HMEM.out HNY.out, ← hu]; exact List.getElem_mem hjl
                      have K3 := Lib.hid (AT1.out w6 u (B5.out.trans (B9.out.mono B5.out.size)))
                      have K4 := Lib.hid (AT2.out w6 u B10.out)
                      have hpi : Hid (atV o u < i) := Lib.hid (by
                        rcases HUSE.out u hum with h | h
                        · exact atV_lt h
                        · have := atV_neg.2 (HDIS.out u h); omega)
                      have hpq : Hid (atV o u < 0 → ¬ atV hv u < 0) := Lib.hid (fun h h3 => by
                        rcases HUSE.out u hum with h4 | h4
                        · exact atV_neg.1 h (List.mem_of_mem_take h4)
                        · exact atV_neg.1 h3 h4)
                      have htj : Hid (∀ z ∈ us.take (j + 1), z ∈ us.take j ∨ z = u) := Lib.hid (fun z hz => by
                        rw [List.take_succ_eq_append_getElem hjl, hu] at hz
                        rcases List.mem_append.1 hz with h | h
                        · exact .inl h
                        · exact .inr (List.mem_singleton.1 h))
                      obtain ⟨p, hp⟩ : ∃ p, p = atV o u := ⟨_, rfl⟩
                      obtain ⟨r, hr⟩ : ∃ r, r = atV hv u := ⟨_, rfl⟩
                      rw [← hp] at K3 hpi hpq
                      rw [← hr] at K4 hpq
                      have HP := Lib.hid hp
                      have hpl := hpi.out
                      have hpn : ¬ ((i : Int) ≤ p) := by omega
                      clear hu hum hp hr
                      cases rd2 with
                      | false =>
                        by_cases hp0 : p < 0
                        all_goals first
                          | (have hq2 : ¬ r < 0 := hpq.out hp0
                             go_must (go_wp2_with (first | (go_at_call 11; with_reducible refine K3.out.mono ?_; rintro en wx ⟨rfl, hwx⟩; rw [hwx]; clear hwx) | (go_at_call 11; with_reducible refine K4.out.mono ?_; rintro en wx ⟨rfl, hwx⟩; rw [hwx]; clear hwx) | fail)))
                          | go_must (go_wp2_with (first | (go_at_call 11; with_reducible refine K3.out.mono ?_; rintro en wx ⟨rfl, hwx⟩; rw [hwx]; clear hwx) | (go_at_call 11; with_reducible refine K4.out.mono ?_; rintro en wx ⟨rfl, hwx⟩; rw [hwx]; clear hwx) | fail))
                        all_goals
                          go_roundg (gk - 1)
                          case measure => have := HJ.out; omega
                          case rel => exact ⟨j + 1, false, (by simp), rfl, rfl, ⟨by have := HJ.out; omega, fun h => absurd h (by decide)⟩⟩
                      | true =>
                        by_cases hi0 : i = 0
                        · subst hi0
                          have hp0 : p < 0 := by have := hpi.out; omega
                          have hq2 : ¬ r < 0 := hpq.out hp0
                          go_wp2_with (first | (go_at_call 11; with_reducible refine K3.out.mono ?_; rintro en wx ⟨rfl, hwx⟩; rw [hwx]; clear hwx) | (go_at_call 11; with_reducible refine K4.out.mono ?_; rintro en wx ⟨rfl, hwx⟩; rw [hwx]; clear hwx) | fail)
                          go_roundg (gk - 1)
                          case measure => have := HJ.out; omega
                          case rel => exact ⟨j + 1, true, (by simp), rfl, rfl, ⟨by have := HJ.out; omega, fun _ => ⟨(RD2.out (by first | rfl | trivial)).1, fun z _ => .inl (by first | rfl | trivial)⟩⟩⟩
                        · have hi1 : ¬ (i : Int) = 0 := by omega
                          by_cases hpi1 : p < (i : Int) - 1
                          · by_cases hp0 : p < 0
                            all_goals first
                              | (have hq2 : ¬ r < 0 := hpq.out hp0
                                 go_must (go_wp2_with (first | (go_at_call 11; with_reducible refine K3.out.mono ?_; rintro en wx ⟨rfl, hwx⟩; rw [hwx]; clear hwx) | (go_at_call 11; with_reducible refine K4.out.mono ?_; rintro en wx ⟨rfl, hwx⟩; rw [hwx]; clear hwx) | fail)))
                              | go_must (go_wp2_with (first | (go_at_call 11; with_reducible refine K3.out.mono ?_; rintro en wx ⟨rfl, hwx⟩; rw [hwx]; clear hwx) | (go_at_call 11; with_reducible refine K4.out.mono ?_; rintro en wx ⟨rfl, hwx⟩; rw [hwx]; clear hwx) | fail))
                            all_goals
                              go_roundg (gk - 1)
                              case measure => have := HJ.out; omega
                              case rel => exact ⟨j + 1, true, (by simp), (by simp [hi0, hpi1]), rfl, ⟨by have := HJ.out; omega, fun _ => ⟨(RD2.out (by first | rfl | trivial)).1, fun z hz => by
                                rcases htj.out z hz with h3 | h3
                                · exact (RD2.out (by first | rfl | trivial)).2 z h3
                                · rw [h3, ← HP.out]; exact .inr hpi1⟩⟩⟩
                          · have hpi2 : ¬ (p < (i : Int) - 1) := hpi1
                            have hp0 : ¬ p < 0 := by omega
                            go_wp2_with (first | (go_at_call 11; with_reducible refine K3.out.mono ?_; rintro en wx ⟨rfl, hwx⟩; rw [hwx]; clear hwx) | (go_at_call 11; with_reducible refine K4.out.mono ?_; rintro en wx ⟨rfl, hwx⟩; rw [hwx]; clear hwx) | fail)
                            go_roundg (gk - 1)
                            case measure => have := HJ.out; omega
                            case rel => exact ⟨j + 1, false, (by simp), (by simp [hi0, hpi1]), rfl, ⟨by have := HJ.out; omega, fun h => absurd h (by decide)⟩⟩
                    · have hjli : ¬ (j : Int) < (us.length : Int) := by omega
                      go_wp2_with fail
                      go_roundg (g2 - 1)
                      case measure => have := HK.out; omega
                      case rel => exact ⟨k + 1, rd2, (by simp), rfl, ⟨by have := HK.out; omega, fun h v hv he z hz => by
                        obtain ⟨h1, h2⟩ := RD2.out h
                        rcases htk.out v hv with h3 | h3
                        · exact RD.out h1 v h3 he z hz
                        · subst h3; exact h2 z (by rw [List.take_of_length_le (by omega)]; exact hz)⟩, ⟨B9.out⟩⟩
                · have hne := tl_false hny
                  have HNY := Lib.hid hny
                  clear hny
                  go_wp2_with fail
                  go_quiet (fail)
                  have B9 := Lib.hid (show Below w5.heap.size w5 (wr.drewN nq) from (Only.of_below B7.out (fun _ => False)).drewN nq |>.below_all)
                  generalize wr.drewN nq = w6 at *
                  go_wp2_with fail
                  go_roundg (gk - 1)
                  case measure => have := HK.out; omega
                  case rel => exact ⟨k + 1, rd, (by simp), rfl, ⟨by have := HK.out; omega, fun h v hv he z hz => by
                    rcases htk.out v hv with h3 | h3
                    · exact RD.out h v h3 he z hz
                    · subst h3; exact absurd he HNY.out⟩, ⟨B9.out⟩⟩
              · have hkli : ¬ (k : Int) < (l.length : Int) := by omega
                have hrd : rd = true → ∀ u ∈ uses l y, i = 0 ∨ atV o u < (i : Int) - 1 := fun h u hu => by
                  have hkn := OUT.out.known y (by rw [← HY.out]; exact List.getElem_mem hio)
                  cases hu2 : usesOf l y with
                  | none => exact absurd hu2 hkn
                  | some us =>
                    have h3 := RD.out h (y, us) (by rw [List.take_of_length_le (by omega)]; exact usesOf_name hu2) rfl
                    unfold uses at hu
                    rw [hu2] at hu
                    exact h3 u hu
                have RDA := Lib.hid hrd
                clear hrd
                by_cases hi0 : i = 0
                · have hd1 : ¬ (0 : Int) < (i : Int) := by omega
                  have hd2 : ¬ 0 < i := by omega
                  clear hi0
                  go_wp2_with fail
                  go_quiet (fail)
                  have B9 := Lib.hid (show Below w4.heap.size w4 (wr.drewN nq) from (Only.of_below (B5.out.trans (B7.out.mono B5.out.size)) (fun _ => False)).drewN nq |>.below_all)
                  generalize wr.drewN nq = w6 at *
                  go_wp2_with fail
                  go_roundg (go - 1)
                  case measure => have := HI.out; omega
                  case rel => exact ⟨i + 1, (by simp), ⟨by have := HI.out; omega⟩, ⟨B9.out⟩⟩
                · have hd1 : (0 : Int) < (i : Int) := by omega
                  have hd2 : 0 < i := by omega
                  cases rd with
                  | false =>
                    go_wp2_with fail
                    go_quiet (fail)
                    have B9 := Lib.hid (show Below w4.heap.size w4 (wr.drewN nq) from (Only.of_below (B5.out.trans (B7.out.mono B5.out.size)) (fun _ => False)).drewN nq |>.below_all)
                    generalize wr.drewN nq = w6 at *
                    go_wp2_with fail
                    go_roundg (go - 1)
                    case measure => have := HI.out; omega
                    case rel => exact ⟨i + 1, (by simp), ⟨by have := HI.out; omega⟩, ⟨B9.out⟩⟩
                  | true =>
                    have hi1 : i - 1 < o.length := by omega
                    obtain ⟨ad2, hAd2, ex2⟩ := name_at (Kd.C_below (OwnS.reads O4.out).1 (B5.out.trans (B7.out.mono B5.out.size))) rfl (i - 1) hi1
                    obtain ⟨z, hz⟩ : ∃ z, o[i - 1] = z := ⟨_, rfl⟩
                    rw [hz] at ex2
                    obtain rfl : ad = ad2 := by injection hAd2
                    have hls : Op.bytesLess y.toList z.toList = false := by
                      rw [less_eq]
                      refine decide_eq_false (List.not_lt.2 ?_)
                      have h := OUT.out.ord.least (i - 1) hi1 y (by rw [← HY.out]; exact List.getElem_mem hio) (fun h => (OUT.out.ord.new i hio).1 (by
                        rw [HY.out]
                        obtain ⟨q, hq, e⟩ := List.mem_take_iff_getElem.1 h
                        exact List.mem_take_iff_getElem.2 ⟨q, by have := (Nat.lt_min.1 hq).1; exact Nat.lt_min.2 ⟨by omega, (Nat.lt_min.1 hq).2⟩, e⟩)) (by have := (OUT.out.ord.new i hio).2; rwa [HY.out] at this) (fun u hu => by
                        rcases HUSE.out u hu with h1 | h1
                        · refine .inl (atV_take ?_ (List.mem_of_mem_take h1))
                          have := (RDA.out rfl u hu).resolve_left hi0
                          omega
                        · exact .inr (List.mem_reverse.2 h1))
                      rwa [hz] at h
                    have hin : ((i : Int) - 1).toNat = i - 1 := by omega
                    have hi1a : (0 : Int) ≤ (i : Int) - 1 := by omega
                    have hi1b : (i : Int) - 1 < (o.length : Int) := by omega
                    have hwi : IntKind.i64.wrap ((i : Int) - 1) = (i : Int) - 1 := by
                      refine IntWalk.i64_in ?_ ?_ <;> omega
                    clear hz
                    go_wp2_with fail
                    go_quiet (fail)
                    have B9 := Lib.hid (show Below w4.heap.size w4 (wr.drewN nq) from (Only.of_below (B5.out.trans (B7.out.mono B5.out.size)) (fun _ => False)).drewN nq |>.below_all)
                    generalize wr.drewN nq = w6 at *
                    go_wp2_with fail
                    go_roundg (go - 1)
                    case measure => have := HI.out; omega
                    case rel => exact ⟨i + 1, (by simp), ⟨by have := HI.out; omega⟩, ⟨B9.out⟩⟩
          · have hioi : ¬ (i : Int) < (o.length : Int) := by omega
            have hxe := tl_true (rfl : ByteArray.empty = ByteArray.empty)
            go_wp2_with fail
            go_ret
            exact ⟨rfl, B6.out⟩
  all_goals
    go_enter Try.func3, Try.ntmps3
    go_wp2_with (first
      | (go_at_call 7; with_reducible refine AW.out.mono ?_; rintro en w0 ⟨rfl, b0⟩; have B0 := Lib.hid b0; have VO := Lib.hid (vocabs_c A c l w0 (Kd.C_below HCL.out b0) HF.out); clear b0)
      | (go_at_call 9; with_reducible refine VO.out.mono ?_; rintro en w1 ⟨A1, c1, rfl, r1, b1⟩; have R1 := Lib.hid r1; have B1 := Lib.hid (B0.out.trans (b1.mono B0.out.size)); have OW := Lib.hid (own_c B d wl w1 (Kd.C_below HW.out B1.out) (by have := HWN.out.2; omega)); clear r1 b1)
      | (go_at_call 10; with_reducible refine OW.out.mono ?_; rintro en w2 ⟨v2, rfl, o2, b2⟩; obtain ⟨A2, c2, rfl⟩ := OwnS.slice o2; have O2 := Lib.hid o2; have BB2 := Lib.hid b2; have B2 := Lib.hid (B1.out.trans (b2.mono B1.out.size)); have OH := Lib.hid (own_c D g hv w2 (Kd.C_below HH.out B2.out) (by have := HHN.out.2; omega)); clear o2 b2)
      | (go_at_call 10; with_reducible refine OH.out.mono ?_; rintro en w3 ⟨v3, rfl, o3, b3⟩; obtain ⟨A3, c3, rfl⟩ := OwnS.slice o3; have B3 := Lib.hid (B2.out.trans (b3.mono B2.out.size))
         have SO := Lib.hid (Sort_c A1 c1 l A2 c2 wl A3 c3 hv w3 ((VC_of_R R1.out).1.below (BB2.out.trans (b3.mono BB2.out.size))) (VC_of_R R1.out).2 HF.out (Kd.C_below (OwnS.reads O2.out).1 b3) (OwnS.reads O2.out).2.1 (OwnS.reads O2.out).2.2 ⟨HWN.out.1, by have := HWN.out.2; omega⟩ (OwnS.reads o3).1 (OwnS.reads o3).2.1 ⟨HHN.out.1, by have := HHN.out.2; omega⟩ _ _ _ HR.out)
         clear o3 b3)
      | (go_at_call 8; with_reducible refine SO.out.mono ?_; rintro en w4 ⟨v4, rfl, o4, b4⟩; obtain ⟨A4, c4, rfl⟩ := OwnS.slice o4; have O4 := Lib.hid o4; have B4 := Lib.hid (B3.out.trans (b4.mono B3.out.size)); clear o4 b4)
      | fail)
    go_ret
    exact ⟨rfl, B4.out⟩
end Go.Proofs.Ytlphpmdmlcphbaa.Or
