/- PagesApart, walked. -/
import Derived.Test.YtgiidddmhnnnjaaPg2
namespace Go.Proofs.Ytgiidddmhnnnjaa.Pg
open Go.RowKit Go.Proofs.Ytgiidddmhnnnjaa.Mem Go.Proofs.YtgiidddmhnnnjaaW.PrintWords Go.Proofs.Ytgiidddmhnnnjaa.Dk
set_option linter.unusedVariables false
set_option linter.unusedSimpArgs false
theorem info_int : (Try.prog.info? 3).map (fun i => (i.zero, i.size, i.bytes)) = some (some (.int .i64 0), 1, 8) := by kernel_rfl
theorem made_ints (n : Nat) : madeCells #[.int .i64 0] n = (icells .i64 (List.replicate n 0)).toArray := by
  apply Array.ext
  · simp [madeCells, icells]
  · intro i h1 h2
    simp [madeCells, icells]
    rw [Nat.mod_one]; rfl
theorem make_ints (n : Nat) (hn : n ≤ 65536) (w : World) : (Instr.makeSlice 61 (.int .i64 (n : Int)) (.int .i64 (n : Int))).run Try.prog w = .ok (.slice (some ⟨w.heap.size, 0, none⟩) n n) (w.alloc (.cells (icells .i64 (List.replicate n 0)).toArray 3)) := by
  have := run_make_row' (P := Try.prog) 61 3 (.int .i64 0) 8 Try.underlying61 info_int rfl .i64 .i64 n (by omega) (by omega) w
  rw [made_ints] at this
  exact this
def sectorsP (s : Int) : Nat := if s < 4 ∨ 64 < s then 16 else s.toNat
set_option maxHeartbeats 8000000 in
set_option maxRecDepth 100000 in
theorem papart_any (s : Int) (A : Option Addr) (c : Nat) (list : List OpP) (w : World) (hs : Hid (ScriptP w A c list)) :
    Calls Try.prog 9 #[.int .i64 s, .slice A list.length c] w fun e w' => e = .returned (.bool true) ∧ Below w.heap.size w w' := by
  obtain ⟨n, hn⟩ : ∃ n, sectorsP s = n := ⟨_, rfl⟩
  have hn1 : 4 ≤ n ∧ n ≤ 64 := by rw [← hn]; unfold sectorsP; split <;> omega
  have hcase : (s < 4 ∧ (n : Int) = 16) ∨ (64 < s ∧ ¬ s < 4 ∧ (n : Int) = 16) ∨ (¬ s < 4 ∧ ¬ 64 < s ∧ s = n) := by
    unfold sectorsP at hn
    split at hn <;> omega
  have hlen := hs.out.size
  clear hn
  have HNEW := Lib.hid (fun w => new_ok n w (by omega) (by omega))
  obtain ⟨m, hm⟩ : ∃ m, n / 4 = m := ⟨_, rfl⟩
  have hm1 : 1 ≤ m ∧ m ≤ 16 := by omega
  have HMN := Lib.hid hm
  have hmk := fun u => make_ints m (by omega) u
  clear hm
  rcases hcase with ⟨h1, h4⟩ | ⟨h2, h1, h4⟩ | ⟨h1, h2, h4⟩
  all_goals first | subst h4 | (rw [h4] at HNEW; have HN4 := Lib.hid h4; clear h4)
  all_goals
    go_enter Try.func9, Try.ntmps9
    go_wp2_with fail
    refine (pawake_any w).mono ?_
    rintro e w0 ⟨rfl, b0⟩
    have B0 := Lib.hid b0
    clear b0
    go_wp2_with fail
    refine (HNEW.out w0).mono ?_
    rintro e w1 ⟨g, rfl, d1, b1⟩
    have hb0 : w.heap.size ≤ w0.heap.size := B0.out.size
    have D1 := Lib.hid (d1.lower hb0)
    have B1 := Lib.hid (((Only.of_below B0.out (fun _ => False)).step (Only.of_below b1 (fun _ => False)) (fun _ _ h => h)).below_all)
    have PI := Lib.hid (inv_zero (n := n) (by omega) (by omega) list)
    have HCN := Lib.hid (show Calls Try.prog 27 #[.pointer (some ⟨g, 0, none⟩)] w1 (fun e w' => e = .returned (.int .i64 (m : Int)) ∧ w1 = w') from by have := count_any D1.out PI.out.good; rwa [HMN.out] at this)
    clear b1 d1 B0 hb0
    go_wp2_with fail
    refine HCN.out.mono ?_
    rintro e w' ⟨rfl, rfl⟩
    go_wp2_with fail
    have BL := Lib.hid (show Blk (w1.alloc (.cells (icells .i64 (List.replicate m 0)).toArray 3)) w1.heap.size 3 (icells .i64 (lastsN m list 0)) from Blk.new _ _ _)
    have hb1 : w.heap.size ≤ w1.heap.size := B1.out.size
    have D2 := Lib.hid ((D1.out.bound).keep ((Only.refl w1 (fun _ => False)).alloc (.cells (icells .i64 (List.replicate m 0)).toArray 3)) (fun _ _ h => h))
    have B2 := Lib.hid (((Only.of_below B1.out (fun _ => False)).alloc (.cells (icells .i64 (List.replicate m 0)).toArray 3)).below_all)
    clear D1 B1 HCN hmk
    generalize w1.alloc (.cells (icells .i64 (List.replicate m 0)).toArray 3) = w2 at *
    generalize w1.heap.size = H at *
    have HHw := Lib.hid hb1
    clear hb1
    go_loopg [9] list.length (fun mm iv wr => ∃ k : Nat, iv = .int .i64 k ∧ Aside1 (k + mm = list.length ∧ (∃ x, PgInv n list k x ∧ IsDisk wr w.heap.size (fun q => q ≠ H) g x) ∧ Blk wr H 3 (icells .i64 (lastsN m list k)) ∧ Below w.heap.size w wr))
    case atStart => exact ⟨0, rfl, ⟨Nat.zero_add _, ⟨_, PI.out, D2.out.mono (fun q hq => by omega)⟩, BL.out, B2.out⟩⟩
    case round =>
      obtain ⟨k, rfl, hA⟩ := hrel
      have HM := Lib.hid hA.out.1
      obtain ⟨x, hx, hd⟩ := hA.out.2.1
      have HI := Lib.hid hd
      have HX := Lib.hid hx
      have HL := Lib.hid hA.out.2.2.1
      have HB := Lib.hid hA.out.2.2.2
      clear hA hx hd D2 BL B2 PI
      have hw1 : Hid (wrap64 ((k : Int) + 1) = ((k + 1 : Nat) : Int)) := Lib.hid (by have := HM.out; unfold wrap64; omega)
      by_cases hk : k < list.length
      · have hki : (k : Int) < (list.length : Int) := by omega
        have hk0 : (0 : Int) ≤ (k : Int) := by omega
        obtain ⟨ad, o1, o2, o3, o4, oB, AB, cB, rfl, e1, cs, e3, cb, e5, e6⟩ := opP_held hs.out k hk
        have HE := Lib.hid e1
        have CB := Lib.hid cb
        have HOK := Lib.hid e6
        obtain ⟨x0, x1, x2, x3, x4⟩ := cs wr HB.out
        clear e1 cs cb e6
        go_wp2_with fail
        have HV := Lib.hid ((IsDisk.bound HI.out).keep ((Only.refl wr (fun _ => False)).alloc (.cells #[.int .i64 o1, .int .i64 o2, .int .i64 o3, .int .u32 o4, .slice AB oB.length cB] 63)) (fun _ _ h => h))
        have HBV := Lib.hid (((Only.of_below HB.out (fun _ => False)).alloc (.cells #[.int .i64 o1, .int .i64 o2, .int .i64 o3, .int .u32 o4, .slice AB oB.length cB] 63)).below_all)
        have BO := Lib.hid (show Blk (wr.alloc (.cells #[.int .i64 o1, .int .i64 o2, .int .i64 o3, .int .u32 o4, .slice AB oB.length cB] 63)) wr.heap.size 63 [.int .i64 o1, .int .i64 o2, .int .i64 o3, .int .u32 o4, .slice AB oB.length cB] from Blk.new _ _ _)
        have HLV := Lib.hid (HL.out.alloc (.cells #[.int .i64 o1, .int .i64 o2, .int .i64 o3, .int .u32 o4, .slice AB oB.length cB] 63))
        clear x0 x1 x2 x3 x4 HI HB HL
        generalize wr.alloc (.cells #[.int .i64 o1, .int .i64 o2, .int .i64 o3, .int .u32 o4, .slice AB oB.length cB] 63) = v0 at *
        generalize wr.heap.size = L at *
        have y1 := BO.out.cell_at 1 _ rfl
        have y3 := BO.out.cell_at 3 _ rfl
        have y4 := BO.out.cell_at 4 _ rfl
        have hLlt : Hid (L < v0.heap.size) := Lib.hid BO.out.lt
        have HBd : Hid (Below w.heap.size w v0.drew) := Lib.hid ((Only.of_below HBV.out (fun _ => False)).drew).below_all
        have hpl3 : (x.pend.length + 5) * 32 ≤ 140737488355328 := by have := HX.out.plen; omega
        have HLok : Hid (¬ (L ≠ H ∧ w.heap.size ≤ L ∧ L < L)) := Lib.hid (fun hh => absurd hh.2.2 (Nat.lt_irrefl _))
        have CS : Hid (∀ W, Blk W L 63 [.int .i64 o1, .int .i64 o2, .int .i64 o3, .int .u32 o4, .slice AB oB.length cB] → W.cell? ⟨L, 1, none⟩ = some (.int .i64 o2) ∧ W.cell? ⟨L, 3, none⟩ = some (.int .u32 o4) ∧ W.cell? ⟨L, 4, none⟩ = some (.slice AB oB.length cB)) := Lib.hid (fun W h => ⟨h.cell_at 1 _ rfl, h.cell_at 3 _ rfl, h.cell_at 4 _ rfl⟩)
        have BOd : Hid (Blk v0.drew L 63 [.int .i64 o1, .int .i64 o2, .int .i64 o3, .int .u32 o4, .slice AB oB.length cB]) := Lib.hid BO.out.drew
        have hcs : ∃ r : Int, wres (n / 4) o2 oB.length = r ∧ ((0 ≤ o2 ∧ o2 < (m : Int) ∧ oB.length ≤ 116 ∧ r = 0) ∨ (0 ≤ o2 ∧ o2 < (m : Int) ∧ ¬ oB.length ≤ 116 ∧ r = 11) ∨ (¬ 0 ≤ o2 ∧ r = 4) ∨ (0 ≤ o2 ∧ ¬ o2 < (m : Int) ∧ r = 4)) := by
          refine ⟨_, rfl, ?_⟩
          rw [HMN.out]
          unfold wres
          by_cases h1 : 0 ≤ o2
          · by_cases h2 : o2 < (m : Int)
            · by_cases h3 : oB.length ≤ 116
              · exact .inl ⟨h1, h2, h3, by rw [if_pos ⟨h1, h2⟩, if_pos h3]⟩
              · exact .inr (.inl ⟨h1, h2, h3, by rw [if_pos ⟨h1, h2⟩, if_neg h3]⟩)
            · exact .inr (.inr (.inr ⟨h1, h2, by rw [if_neg (fun hh => h2 hh.2)]⟩))
          · exact .inr (.inr (.inl ⟨h1, by rw [if_neg (fun hh => h1 hh.1)]⟩))
        obtain ⟨r, hr, hcs⟩ := hcs
        have HR := Lib.hid hr
        clear hr
        rcases hcs with ⟨c1, c2, c3, rfl⟩ | ⟨c1, c2, c3, rfl⟩ | ⟨c1, rfl⟩ | ⟨c1, c2, rfl⟩
        all_goals
          go_region_held3 (fun w' => w'.cell? ⟨L, 1, none⟩ = some (.int .i64 o2) ∧ w'.cell? ⟨L, 3, none⟩ = some (.int .u32 o4) ∧ w'.cell? ⟨L, 4, none⟩ = some (.slice AB oB.length cB)) (exact CS.out _ (by first | exact BOd.out | exact BO2.out | exact BO4.out)) (first
            | (go_at_call 29; refine (own_any AB cB oB _ (CB.out _ HBd.out) e3 e5).mono ?_; rintro e w5 ⟨v, rfl, r2, b2⟩; obtain ⟨A2, c2', ev2⟩ := Kd.R_slice r2; subst ev2; have R2 := Lib.hid r2; have B2 := Lib.hid b2; have BO2 := Lib.hid (BOd.out.below b2 BOd.out.lt); have HB2 := Lib.hid (((Only.of_below HBd.out (fun _ => False)).step (Only.of_below b2 (fun _ => False)) (fun _ _ h => h)).below_all); clear r2 b2)
            | (go_at_call 28; refine (pwrite_any ((HV.out.keep ((Only.refl v0 (fun _ => False)).drew) (fun _ _ h => h)).keep (Only.of_below B2.out (fun _ => False)) (fun _ _ h => h)) HX.out.good HB2.out.size HX.out.life hpl3 o2 o4 HOK.out.1 A2 c2' oB (Kd.R_reads' R2.out).2.2 (Kd.R_reads' R2.out).2.1 HOK.out.2 e5).mono ?_; rintro e w4 ⟨he, d4, o4'⟩; rw [HR.out] at he; subst he; have D4 := Lib.hid d4; have O4 := Lib.hid o4'; have BO4 := Lib.hid (BO2.out.keep o4' HLok.out); clear d4 o4'))
        all_goals
          have HL4 := Lib.hid (((HLV.out.drew).below B2.out HLV.out.lt).keep O4.out (fun h => h.1 rfl))
          have HB4 := Lib.hid ((Only.of_below HB2.out (fun _ => False)).step O4.out (fun q hq h => by have := h.2.1; omega)).below_all
          have hHlt : H < w5.heap.size := Nat.lt_of_lt_of_le HLV.out.lt B2.out.size
          have D5 := Lib.hid (D4.out.mono (ok' := fun q => q ≠ H) (fun q hq => hq.elim (fun h => h.1) (fun h => by omega)))
          have z1 := BO4.out.cell_at 1 _ rfl
          have z4 := BO4.out.cell_at 4 _ rfl
          clear y1 y3 y4 HV HBV BO HLV BOd BO2 R2 B2 HB2 D4 O4 CS HLok hLlt HBd
        · obtain ⟨q, rfl⟩ := Int.eq_ofNat_of_zero_le c1
          have hqm : q < m := by omega
          have c3i : (oB.length : Int) ≤ 116 := by omega
          have hfit : fitsP (n / 4) (o1, (q : Int), o3, o4, oB) := ⟨c1, by rw [HMN.out]; exact c2, c3⟩
          have hinv := inv_yes HX.out HE.out hfit HOK.out
          have hly := lastsN_y HE.out hfit
          rw [HMN.out] at hly
          simp only [Int.toNat_natCast] at hinv hly
          have D6 := Lib.hid (show IsDisk w4 w.heap.size (fun q => q ≠ H) g (pgN x q (Hand.packed o4 oB) 4) from by
            have := D5.out
            rw [if_pos ⟨c1, by rw [HMN.out]; exact c2, c3⟩, Int.toNat_natCast] at this
            exact this)
          have INV := Lib.hid hinv
          have HLY := Lib.hid hly
          obtain ⟨z, hz⟩ : ∃ z, (lastsN m list k)[q]? = some z := ⟨_, List.getElem?_eq_getElem (by rw [lastsN_length]; omega)⟩
          have hcell := HL4.out.cell_at q (.int .i64 z) (by simp only [icells, List.getElem?_map, hz, Option.map_some])
          have hfr := HL4.out.frozen q
          clear D5 hinv hly hfit hz
          go_wp2_with fail
          have HL5 := Lib.hid (HL4.out.set_ q (.int .i64 ((k : Int) + 1)))
          have D7 := Lib.hid (D6.out.keep ((Only.refl w4 (fun k => k = H)).setCell (p := ⟨H, q, none⟩) (fun _ => rfl) (.int .i64 ((k : Int) + 1))) (fun q hq h => hq h))
          have B7 := Lib.hid ((Only.of_below HB4.out (fun _ => False)).step ((Only.refl w4 (fun k => k = H)).setCell (p := ⟨H, q, none⟩) (fun _ => rfl) (.int .i64 ((k : Int) + 1))) (fun q hq h => by have h : q = H := h; have := HHw.out; omega)).below_all
          go_roundg (gk - 1)
          case measure => have := HM.out; omega
          case rel => exact ⟨k + 1, (by first | exact congrArg (Value.int .i64) hw1.out | exact congrArg (Value.int .i64) (by omega)), ⟨by have := HM.out; omega, ⟨_, INV.out, D7.out⟩, by have h9 := HL5.out; rw [icells_set, ← HLY.out] at h9; exact h9, B7.out⟩⟩
        all_goals
          have hfit : ¬ fitsP (n / 4) (o1, o2, o3, o4, oB) := fun hh => by
            obtain ⟨f1, f2, f3⟩ : 0 ≤ o2 ∧ o2 < ((n / 4 : Nat) : Int) ∧ oB.length ≤ 116 := hh
            rw [HMN.out] at f2
            omega
          have INV := Lib.hid (inv_no HX.out HE.out hfit)
          have hln := lastsN_n HE.out hfit
          rw [HMN.out] at hln
          have HLN := Lib.hid hln
          have D6 := Lib.hid (show IsDisk w4 w.heap.size (fun q => q ≠ H) g x from by
            have := D5.out
            rw [if_neg (fun hh => by
              obtain ⟨f1, f2, f3⟩ := hh
              rw [HMN.out] at f2
              omega)] at this
            exact this)
          clear D5 hfit hln
          go_wp2
          go_roundg (gk - 1)
          case measure => have := HM.out; omega
          case rel => exact ⟨k + 1, (by first | exact congrArg (Value.int .i64) hw1.out | exact congrArg (Value.int .i64) (by omega)), ⟨by have := HM.out; omega, ⟨_, INV.out, D6.out⟩, by rw [HLN.out]; exact HL4.out, HB4.out⟩⟩
      · have hki : ¬ (k : Int) < (list.length : Int) := by omega
        obtain rfl : k = list.length := by have := HM.out; omega
        go_wp2_with fail
        clear hw1 hk
        go_loopg [13] m (fun mm iv wr => ∃ p : Nat, iv = .int .i64 p ∧ Aside1 (p + mm = m ∧ IsDisk wr w.heap.size (fun q => q ≠ H) g x ∧ Blk wr H 3 (icells .i64 (lastsN m list list.length)) ∧ Below w.heap.size w wr))
        case atStart => exact ⟨0, rfl, ⟨Nat.zero_add _, HI.out, HL.out, HB.out⟩⟩
        case round =>
          obtain ⟨p, rfl, hA⟩ := hrel
          have HMp := Lib.hid hA.out.1
          have DI := Lib.hid hA.out.2.1
          have LL := Lib.hid hA.out.2.2.1
          have BB := Lib.hid hA.out.2.2.2
          clear hA HI HL HB
          have hwp : Hid (wrap64 ((p : Int) + 1) = ((p + 1 : Nat) : Int)) := Lib.hid (by have := HMp.out; unfold wrap64; omega)
          by_cases hp : p < m
          · have hpi : (p : Int) < (m : Int) := by omega
            have hp0 : (0 : Int) ≤ (p : Int) := by omega
            have PR := pread_ok DI (Lib.hid HX.out.good) (Lib.hid HX.out.life) p (by rw [HMN.out]; exact hp)
            rcases HX.out.page p (by rw [HMN.out]; exact hp) with ⟨h1, h2⟩ | ⟨k, o, h1, h2, h3, h4, h5⟩
            · rw [HMN.out] at h1
              have hcell := LL.out.cell_at p (.int .i64 0) (by simp only [icells, List.getElem?_map, h1, Option.map_some])
              rw [h2, unp_zeros] at PR
              have HPR := Lib.hid PR
              clear PR h1 h2
              go_wp2_with fail
              refine HPR.out.mono ?_
              rintro e w2 ⟨v, rfl, -, b2⟩
              have hcell2 := (b2.cell (p := ⟨H, p, none⟩) LL.out.lt).trans hcell
              have D2 := Lib.hid (DI.out.keep (Only.of_below b2 (fun _ => False)) (fun _ _ h => h))
              have L2 := Lib.hid (LL.out.below b2 LL.out.lt)
              have B2 := Lib.hid (((Only.of_below BB.out (fun _ => False)).step (Only.of_below b2 (fun _ => False)) (fun _ _ h => h)).below_all)
              clear b2 hcell HPR
              go_wp2
              go_roundg (gk - 1)
              case measure => have := HMp.out; omega
              case rel => exact ⟨p + 1, (by first | exact congrArg (Value.int .i64) hwp.out | exact congrArg (Value.int .i64) (by omega)), ⟨by have := HMp.out; omega, D2.out, L2.out, B2.out⟩⟩
            · rw [HMN.out] at h2
              have hcell := LL.out.cell_at p (.int .i64 ((k : Int) + 1)) (by simp only [icells, List.getElem?_map, h2, Option.map_some])
              have hok := hs.out.ok o (List.mem_of_getElem? h3)
              rw [h5, Pp.unp_packed _ _ hok.1 h4] at PR
              obtain ⟨ad, o1, o2, o3, o4, oB, AB, cB, rfl, e1, cs, e3, cb, e5, e6⟩ := opP_held hs.out k h1
              rw [h3] at e1
              cases e1
              have HPR := Lib.hid PR
              have CB := Lib.hid cb
              have CS := Lib.hid cs
              have hki : (k : Int) < (list.length : Int) := by omega
              have hk0 : (0 : Int) ≤ (k : Int) := by omega
              have hkk : k < list.length := h1
              clear PR h1 h2 h3 h5 cb cs e6 hok
              go_wp2_with fail
              refine HPR.out.mono ?_
              rintro e w2 ⟨v, rfl, r2, b2⟩
              have hcell2 := (b2.cell (p := ⟨H, p, none⟩) LL.out.lt).trans hcell
              have D2 := Lib.hid (DI.out.keep (Only.of_below b2 (fun _ => False)) (fun _ _ h => h))
              have L2 := Lib.hid (LL.out.below b2 LL.out.lt)
              have B2 := Lib.hid (((Only.of_below BB.out (fun _ => False)).step (Only.of_below b2 (fun _ => False)) (fun _ _ h => h)).below_all)
              obtain ⟨A2, c2, ev⟩ := Kd.R_slice r2
              subst ev
              have R2 := Lib.hid r2
              obtain ⟨x0, x1, x2, x3, x4⟩ := CS.out w2 B2.out
              have hk1 : (k : Int) + 1 - 1 = (k : Int) := by omega
              clear b2 hcell HPR r2
              go_wp2_with fail
              have o3 : Only w2 (w2.alloc (.cells #[.int .i64 o1, .int .i64 o2, .int .i64 o3, .int .u32 o4, .slice AB oB.length cB] 63)) (fun _ => False) := (Only.refl w2 _).alloc _
              have D3 := Lib.hid (D2.out.keep o3 (fun _ _ h => h))
              have L3 := Lib.hid (L2.out.keep o3 (fun h => h))
              have B3 := Lib.hid (((Only.of_below B2.out (fun _ => False)).step o3 (fun _ _ h => h)).below_all)
              have rr := Kd.R_reads' R2.out
              have SM := Lib.hid (same_any A2 AB c2 cB oB oB _ (Kd.C_below rr.2.2 o3.below_all) rr.2.1 (CB.out _ B3.out) e3 (by omega))
              clear o3 rr D2 L2 B2 R2 x0 x1 x2 x3 x4
              refine SM.out.mono ?_
              rintro e w4 ⟨rfl, b4⟩
              have D4 := Lib.hid (D3.out.keep (Only.of_below b4 (fun _ => False)) (fun _ _ h => h))
              have L4 := Lib.hid (L3.out.below b4 L3.out.lt)
              have B4 := Lib.hid (((Only.of_below B3.out (fun _ => False)).step (Only.of_below b4 (fun _ => False)) (fun _ _ h => h)).below_all)
              clear b4 D3 L3 B3 SM
              go_wp2
              go_roundg (gk - 1)
              case measure => have := HMp.out; omega
              case rel => exact ⟨p + 1, (by first | exact congrArg (Value.int .i64) hwp.out | exact congrArg (Value.int .i64) (by omega)), ⟨by have := HMp.out; omega, D4.out, L4.out, B4.out⟩⟩
          · have hpi : ¬ (p : Int) < (m : Int) := by omega
            go_wp2
            go_ret
            exact ⟨rfl, BB.out⟩
end Go.Proofs.Ytgiidddmhnnnjaa.Pg
