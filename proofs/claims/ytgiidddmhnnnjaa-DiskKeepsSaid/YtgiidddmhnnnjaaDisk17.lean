/- DiskKeeps, walked. -/
import Derived.Test.YtgiidddmhnnnjaaDisk16
import Derived.Test.YtgiidddmhnnnjaaOpOpens
namespace Go.Proofs.Ytgiidddmhnnnjaa.Dk
open Go.RowKit Go.Proofs.Ytgiidddmhnnnjaa.Mem Go.Proofs.YtgiidddmhnnnjaaW.PrintWords
set_option linter.unusedVariables false
set_option linter.unusedSimpArgs false
set_option maxHeartbeats 8000000 in
set_option maxRecDepth 100000 in
theorem keeps_any (s : Int) (A A2 A3 : Option Addr) (c c2 c3 : Nat) (script more : List OpV) (keep : List Bool) (torn cut : Int) (w : World) (hs : Hid (Script w A c script)) (hm : Hid (Script w A2 c2 more)) (hk : Hid (Kd.bool.C w A3 keep.length keep)) (hkc : keep.length ≤ c3) (hkl : keep.length ≤ 140737488351232) (h0 : 0 ≤ cut) (h1 : cut ≤ 32) :
    Calls Try.prog 5 #[.int .i64 s, .slice A script.length c, .slice A2 more.length c2, .slice A3 keep.length c3, .int .i64 torn, .int .i64 cut] w fun e w' => e = .returned (.bool true) ∧ Below w.heap.size w w' := by
  have hgr := grown_good s script hs.out.ok
  obtain ⟨n, hn⟩ : ∃ n, sectorsOf s = n := ⟨_, rfl⟩
  obtain ⟨x, hx⟩ : ∃ x, grownN (sectorsOf s) script script.length = x := ⟨_, rfl⟩
  have HX := Lib.hid hx
  rw [hn] at hgr
  rw [hn] at hx
  rw [hx] at hgr
  have GR := Lib.hid hgr
  have hn0 : 1 ≤ n ∧ n ≤ 64 := by rw [← hn]; exact sectorsOf_le s
  clear hgr hx hn
  go_enter Try.func5, Try.ntmps5
  go_wp2_with fail
  refine (grown_script s A c script w hs.out).mono ?_
  rintro e w1 ⟨g, rfl, d1, b1⟩
  rw [HX.out] at d1
  have D1 := Lib.hid d1
  have B1 := Lib.hid b1
  clear d1 b1
  go_wp2_with fail
  refine (awake_any w1).mono ?_
  rintro e w2 ⟨rfl, b2⟩
  have D2 := Lib.hid (D1.out.keep (Only.of_below b2 (fun _ => False)) (fun _ _ h => h))
  have B2 := Lib.hid (((Only.of_below B1.out (fun _ => False)).step (Only.of_below b2 (fun _ => False)) (fun _ _ h => h)).below_all)
  clear b2 D1 B1
  go_wp2_with fail
  refine (dk_barrier (D2.out.bound) GR.out.good GR.out.good.n2 (by rw [GR.out.life]; decide)).mono ?_
  rintro e w3 ⟨rfl, d3, o3⟩
  obtain ⟨x0, hx0⟩ : ∃ x0, x.barrier = x0 := ⟨_, rfl⟩
  have hT := tear_ok (x0 := x0) (n := n) (by rw [← hx0]; exact GR.out.good.barrier) (by rw [← hx0]; show spent x.life = -1; rw [GR.out.life]; decide) (by rw [← hx0]; rfl) (by rw [← hx0]; rfl) more hm.out.ok
  rw [hx0] at d3
  have HT := Lib.hid hT
  have hWh := whole_puts (x0 := x0) (n := n) (by rw [← hx0]; exact GR.out.good.barrier) (by rw [← hx0]; show spent x.life = -1; rw [GR.out.life]; decide) (by rw [← hx0]; rfl) (by rw [← hx0]; rfl) more hm.out.ok
  have HWH := Lib.hid hWh
  have HP0 := Lib.hid (show x0.pend = [] by rw [← hx0]; rfl)
  have HK0 := Lib.hid (show x0.kept = x0.seen by rw [← hx0]; rfl)
  have D3 := Lib.hid d3
  have B3 := Lib.hid ((Only.of_below B2.out (fun _ => False)).step o3 (fun q hq h => by have := h.2.1; omega)).below_all
  clear hx0 hT hWh d3 o3 D2 B2
  have PE : Hid (Calls Try.prog 23 #[.pointer (some ⟨g, 0, none⟩)] w3 fun e w' => e = .returned (.int .i64 0) ∧ w3 = w') := Lib.hid (by
    have pe := dk_pending D3.out (HT.out 0).good
    rw [HP0.out] at pe
    exact pe)
  go_wp2_with fail
  refine PE.out.mono ?_
  rintro e w' ⟨rfl, rfl⟩
  go_wp2_with fail
  refine (all_any D3 (HT.out 0).good (by rw [show x0.life = -1 from (HT.out 0).life]; decide)).mono ?_
  rintro e w4 ⟨vb, rfl, r4, b4⟩
  have hb3 : w.heap.size ≤ w3.heap.size := B3.out.size
  have o4 : Only w3 w4 (fun _ => False) := Only.of_below b4 _
  obtain ⟨own, hown⟩ : ∃ own, own = upd (fun _ => 1) w3.heap.size 0 := ⟨_, rfl⟩
  have D4 := Lib.hid (show IsDisk w4 w.heap.size (fun k => own k = 1) g x0 from by rw [hown]; exact IsDisk.own_old (D3.out.mono (fun _ _ => rfl)) o4 (fun _ _ h => h) 0)
  have R4 := Lib.hid (show (Kd.int .u8).R 5 w4 w.heap.size (fun k => own k = 0) vb x0.seen from by rw [hown]; exact R_own_new r4 hb3 _ _)
  have B4 := Lib.hid (((Only.of_below B3.out (fun _ => False)).step o4 (fun _ _ h => h)).below_all)
  clear b4 r4 D3 B3 o4 hown PE
  go_wp2_with fail
  refine (dk_copy D4.out (HT.out 0).good (by rw [HP0.out]; decide)).mono ?_
  rintro e w5 ⟨gx, rfl, dx, b5⟩
  have hb4 : w.heap.size ≤ w4.heap.size := B4.out.size
  have o5 : Only w4 w5 (fun _ => False) := Only.of_below b5 _
  obtain ⟨own1, hown⟩ : ∃ own1, own1 = upd own w4.heap.size 2 := ⟨_, rfl⟩
  have D5 := Lib.hid (show IsDisk w5 w.heap.size (fun k => own1 k = 1) g x0 from by rw [hown]; exact IsDisk.own_old D4.out o5 (fun _ _ h => h) 2)
  have X5 := Lib.hid (show IsDisk w5 w.heap.size (fun k => own1 k = 2) gx x0 from by rw [hown]; exact IsDisk.own_new dx hb4 _ _)
  have R5 := Lib.hid (show (Kd.int .u8).R 5 w5 w.heap.size (fun k => own1 k = 0) vb x0.seen from by rw [hown]; exact R_own_old R4.out o5 (fun _ _ h => h) 2)
  have B5 := Lib.hid (((Only.of_below B4.out (fun _ => False)).step o5 (fun _ _ h => h)).below_all)
  clear b5 dx D4 R4 B4 o5 hown hb3 hb4
  have HBe : Hid (Below w5.heap.size w5 (w5.alloc (.cells #[] 4))) := Lib.hid (((Only.refl w5 (fun _ => False))).alloc _).below_all
  have HRe : Hid (Kd.bool.R 4 (w5.alloc (.cells #[] 4)) w5.heap.size (fun _ => True) (.slice (some ⟨w5.heap.size, 0, none⟩) 0 0) []) := Lib.hid (Kd.R_of_own ⟨rfl, .inr ⟨w5.heap.size, 0, #[], rfl, Nat.le_refl _, heap_alloc_new _ _, Nat.le_refl _, by unfold maxLen; omega, rfl, rfl⟩⟩ (fun _ _ => trivial))
  have hLL : (([] : List Bool).length + keep.length) * 1 ≤ 140737488355328 := by simp; omega
  have HCK : Hid (Kd.bool.C (w5.alloc (.cells #[] 4)) A3 keep.length keep) := Lib.hid (Kd.C_below hk.out (((Only.of_below B5.out (fun _ => False)).step (Only.of_below HBe.out (fun _ => False)) (fun _ _ h => h)).below_all))
  go_wp2_with (first
    | ((with_reducible refine gate_builtin (b := .append) (xs := #[.tmp 60, .tmp 61]) rfl ?_); refine wpList_wanted (by rfl) (Kd.R_append_rows_step Kd.bool (w0 := w5) w5.heap.size (by rfl) (.tmp 60) (.tmp 61) 23 4 (.bool false) 1 rfl Try.underlying23 info_bool rfl (by decide) (by omega) (.slice (some ⟨w5.heap.size, 0, none⟩) 0 0) [] keep A3 keep.length c3 (fun _ => True) (fun _ => False) rfl rfl HRe.out HCK.out (fun _ _ h => h) (fun _ h => h.elim) (fun _ _ => trivial) HBe.out HBe.out.size hLL ?_); intro v7 w6 hR7 hb7 hg7 hat7; rw [List.nil_append] at hR7; obtain ⟨A7, c7, ev7⟩ := Kd.R_slice hR7; subst ev7; have R7 := Lib.hid hR7; have B7 := Lib.hid hb7; clear hR7 hb7 hg7 hat7)
    | fail)
  have o6 : Only w5 w6 (fun _ => False) := Only.of_below B7.out _
  have hgx : Good x0 n := (HT.out 0).good
  refine (dk_crash (X5.out.bound.keep o6 (fun _ _ h => h)) hgx (by rw [HP0.out]; decide) A7 c7 keep torn cut h0 h1 (Kd.R_reads' R7.out).2.2 (fun ad he _ hh => by subst he; have := Kd.R_base R7.out ad.block rfl; have := hh.2.2; omega) (Kd.R_reads' R7.out).2.1).mono ?_
  rintro e w7 ⟨rfl, d7, o7⟩
  have hc7 : Good (x0.crash keep torn cut) n := hgx.crash keep torn cut h0 h1
  have hs7 : (x0.crash keep torn cut).seen = x0.seen := by
    show crashN keep torn cut x0.kept x0.pend x0.pend.length = x0.seen
    rw [HP0.out, ← HK0.out]; rfl
  have D7 := Lib.hid ((D5.out.keep o6 (fun _ _ h => h)).keep o7 (fun q hq h => by rw [hq] at h; exact absurd h.1 (by decide)))
  have RB7 := Lib.hid (Kd.R_step (Kd.R_step R5.out (fun q hq hlt => o6.block q hlt (fun h => h))) (fun q hq hlt => o7.block q hlt (fun h => by rw [hq] at h; exact absurd h.1 (by decide))))
  have B8 := Lib.hid (((Only.of_below B5.out (fun _ => False)).step o6 (fun _ _ h => h)).step o7 (fun q hq h => by have := h.2.1; omega)).below_all
  have X7 := Lib.hid d7
  have HC7 := Lib.hid hc7
  have HS7 := Lib.hid hs7
  clear d7 hc7 hs7 hgx o7 o6 D5 X5 R5 B5 R7 B7 HBe HRe HCK hLL
  go_wp2_with fail
  refine (all_any X7 HC7.out (by show (-1 : Int) ≠ 0; decide)).mono ?_
  rintro e w8 ⟨vx, rfl, r8, b8⟩
  rw [HS7.out] at r8
  go_wp2_with fail
  refine (same_rows r8 (Kd.R_below RB7.out b8) (by rw [show x0.seen.length = n * 32 from (HT.out 0).good.seen]; omega) rfl).mono ?_
  rintro e w9 ⟨rfl, b9⟩
  have o9 : Only w7 w9 (fun _ => False) := (Only.of_below b8 (fun _ => False)).step (Only.of_below b9 (fun _ => False)) (fun _ _ h => h)
  have D9 := Lib.hid (D7.out.keep o9 (fun _ _ h => h))
  have R9 := Lib.hid (Kd.R_step RB7.out (fun q hq hlt => o9.block q hlt (fun h => h)))
  have B9 := Lib.hid ((Only.of_below B8.out (fun _ => False)).step o9 (fun _ _ h => h)).below_all
  obtain ⟨Ab, cb0, evb⟩ := Kd.R_slice R9.out
  rw [show x0.seen.length = n * 32 from (HT.out 0).good.seen] at evb
  subst evb
  clear b8 b9 r8 o9 D7 RB7 B8 X7 HC7 HS7
  go_wp2_with fail
  go_loopg [16] more.length (fun m i wr => ∃ (k : Nat) (own : Nat → Nat), i = .int .i64 k ∧ Aside1 (k + m = more.length ∧ IsDisk wr w.heap.size (fun q => own q = 1) g (putsN x0 n more k) ∧ (Kd.int .u8).R 5 wr w.heap.size (fun q => own q = 0) (.slice Ab (n * 32) cb0) x0.seen ∧ Below w.heap.size w wr))
  case atStart => exact ⟨0, own1, rfl, ⟨Nat.zero_add _, D9.out, R9.out, B9.out⟩⟩
  case round =>
    obtain ⟨k, own, rfl, hA⟩ := hrel
    have HM := Lib.hid hA.out.1
    have HI := Lib.hid hA.out.2.1
    have HR := Lib.hid hA.out.2.2.1
    have HB := Lib.hid hA.out.2.2.2
    have hms := hm.out.size
    clear hA D9 R9 B9
    have hw1 : Hid (wrap64 ((k : Int) + 1) = ((k + 1 : Nat) : Int)) := Lib.hid (by have := HM.out; unfold wrap64; omega)
    by_cases hkk : k < more.length
    · have hki : (k : Int) < (more.length : Int) := by omega
      have hk0 : (0 : Int) ≤ (k : Int) := by omega
      obtain ⟨ad, o1, o2, o3, o4, o5, oB, oK, AB, cB, AK, cK, rfl, e1, cs, e3, cb, e5, ck, e7, e8, e9⟩ := op_held hm.out k hkk
      have HE := Lib.hid e1
      have CS := Lib.hid cs
      have CB := Lib.hid cb
      have CK := Lib.hid ck
      have x0' := (cs wr HB.out).1
      clear e1 cs cb ck
      by_cases hW : isW (o1, o2, o3, o4, o5, oB, oK)
      · have WW := Lib.hid hW
        have hcase : o1 < 1 ∨ (¬ o1 < 1 ∧ 5 < o1) := by
          have hW : o1 < 1 ∨ 5 < o1 := hW
          omega
        clear hW
        rcases hcase with hlo | ⟨hlo, hhi⟩
        all_goals
          have hT := HT.out k
          obtain ⟨bb, hbb⟩ : ∃ bb, bb = bytesOf (o1, o2, o3, o4, o5, oB, oK) := ⟨_, rfl⟩
          have HBB := Lib.hid hbb
          have hpl3 : ((putsN x0 n more k).pend.length + 1) * 32 ≤ 140737488355328 := by have := hT.plen; omega
          have HTK := Lib.hid hT
          have HBd : Hid (Below w.heap.size w wr.drew) := Lib.hid ((Only.of_below HB.out (fun _ => False)).drew).below_all
          have HV := Lib.hid (HI.out.bound)
          have HAP : Hid (∀ q, (own q = 1 ∧ w.heap.size ≤ q ∧ q < wr.heap.size) → q < wr.drew.heap.size) := Lib.hid (fun q hq => hq.2.2)
          clear hT hbb
          go_wp2_with fail
          go_region_held3 (fun w' => w'.cell? (ad.add (k * 7)) = some (.int .i64 o1) ∧ w'.cell? ⟨(ad.add (k * 7)).block, (ad.add (k * 7)).off + 1, none⟩ = some (.int .i64 o2) ∧ w'.cell? ⟨(ad.add (k * 7)).block, (ad.add (k * 7)).off + 2, none⟩ = some (.int .i64 o3) ∧ w'.cell? ⟨(ad.add (k * 7)).block, (ad.add (k * 7)).off + 3, none⟩ = some (.int .i64 o4) ∧ w'.cell? ⟨(ad.add (k * 7)).block, (ad.add (k * 7)).off + 4, none⟩ = some (.bool o5) ∧ w'.cell? ⟨(ad.add (k * 7)).block, (ad.add (k * 7)).off + 5, none⟩ = some (.slice AB oB.length cB) ∧ w'.cell? ⟨(ad.add (k * 7)).block, (ad.add (k * 7)).off + 6, none⟩ = some (.slice AK oK.length cK)) (exact CS.out _ (by first | exact HBd.out | exact HB2.out | exact HB4.out)) (first
            | (go_at_call 15; refine (bytes_any o1 o2 o3 o4 o5 oB oK AB AK cB cK _ (CB.out _ HBd.out) e3 (CK.out _ HBd.out) e5 e7).mono ?_; rintro e w2 ⟨v, rfl, r2, b2⟩; rw [← HBB.out] at r2; obtain ⟨A2, c2', ev2⟩ := Kd.R_slice r2; subst ev2; have R2 := Lib.hid r2; have B2 := Lib.hid b2; have HB2 := Lib.hid (((Only.of_below HBd.out (fun _ => False)).step (Only.of_below b2 (fun _ => False)) (fun _ _ h => h)).below_all); clear r2 b2)
            | (go_at_call 14; refine (dk_put ((HV.out.keep ((Only.refl wr (fun _ => False)).drew) (fun _ _ h => h)).keep (Only.of_below B2.out (fun _ => False)) (fun _ _ h => h)) HTK.out.good HB2.out.size hpl3 (by rw [HTK.out.life]; decide) o2 wr.drew.heap.size (fun _ => True) A2 c2' bb R2.out HAP.out).mono ?_; rintro e w4 ⟨⟨r4, rfl⟩, d4, o4⟩; have D4 := Lib.hid d4; have O4 := Lib.hid o4; have HB4 := Lib.hid ((Only.of_below HB2.out (fun _ => False)).step o4 (fun q hq h => absurd h.2.1 (by omega))).below_all; clear d4 o4))
          all_goals
            obtain ⟨own1, hown1⟩ : ∃ own1, own1 = upd own w2.heap.size 1 := ⟨_, rfl⟩
            have D5 := Lib.hid (show IsDisk w4 w.heap.size (fun q => own1 q = 1) g (putsN x0 n more (k + 1)) from by
              rw [hown1, putsN_w HE.out WW.out, DV.put, ← HBB.out]
              exact IsDisk.own_mod (D4.out.mono (fun q hq => hq.imp (fun h => h.1) id)))
            have R5 := Lib.hid (show (Kd.int .u8).R 5 w4 w.heap.size (fun q => own1 q = 0) (.slice Ab (n * 32) cb0) x0.seen from by
              rw [hown1]
              exact R_own_old (Kd.R_step HR.out (fun q hq hlt => B2.out.block q hlt)) O4.out (fun q hq h => by rw [hq] at h; exact absurd h.1 (by decide)) 1)
            clear D4 O4 hown1 HV HAP HB2 B2 R2 HR HI
            go_wp2
            go_roundg (gk - 1)
            case measure => have := HM.out; omega
            case rel => exact ⟨k + 1, own1, (by first | exact congrArg (Value.int .i64) hw1.out | exact congrArg (Value.int .i64) (by omega)), ⟨by have := HM.out; omega, D5.out, R5.out, HB4.out⟩⟩
      · have NW := Lib.hid hW
        have hW' : ¬ (o1 < 1 ∨ 5 < o1) := hW
        have hlo : ¬ o1 < 1 := by omega
        have hhi : ¬ 5 < o1 := by omega
        clear hW hW'
        go_wp2
        go_roundg (gk - 1)
        case measure => have := HM.out; omega
        case rel => exact ⟨k + 1, own, (by first | exact congrArg (Value.int .i64) hw1.out | exact congrArg (Value.int .i64) (by omega)), ⟨by have := HM.out; omega, by rw [putsN_n HE.out NW.out]; exact HI.out, HR.out, HB.out⟩⟩
    · have hki : ¬ (k : Int) < (more.length : Int) := by omega
      obtain rfl : k = more.length := by have := HM.out; omega
      have hTK := HT.out more.length
      have hWK := HWH.out more.length
      obtain ⟨y, hy⟩ : ∃ y, putsN x0 n more more.length = y := ⟨_, rfl⟩
      rw [hy] at hTK hWK HI
      have GY := Lib.hid hTK.good
      have LY := Lib.hid hTK.life
      have PY := Lib.hid hTK.plen
      have KY := Lib.hid hTK.kept
      have WY := Lib.hid hWK
      have G0 := Lib.hid (show x0.seen.length = n * 32 from (HT.out 0).good.seen)
      clear hTK hWK hy HT HWH hw1 hkk
      have hb1 : w.heap.size ≤ wr.heap.size := HB.out.size
      go_wp2_with fail
      refine (all_any HI GY.out (by rw [LY.out]; decide)).mono ?_
      rintro e w4 ⟨vs, rfl, r4, b4⟩
      have hl4 := GY.out.seen
      obtain ⟨As, Cs, e4⟩ := Kd.R_slice r4
      rw [hl4] at e4
      subst e4
      have o4 : Only wr w4 (fun _ => False) := Only.of_below b4 _
      obtain ⟨own2, hown⟩ : ∃ own2, own2 = upd own wr.heap.size 0 := ⟨_, rfl⟩
      have D4 := Lib.hid (show IsDisk w4 w.heap.size (fun k => own2 k = 1) g y from by rw [hown]; exact IsDisk.own_old HI.out o4 (fun _ _ h => h) 0)
      have RB4 := Lib.hid (show (Kd.int .u8).R 5 w4 w.heap.size (fun k => own2 k = 0) (.slice Ab (n * 32) cb0) x0.seen from by rw [hown]; exact R_own_old HR.out o4 (fun _ _ h => h) 0)
      have RS4 := Lib.hid (show (Kd.int .u8).R 5 w4 w.heap.size (fun k => own2 k = 0) (.slice As (n * 32) Cs) y.seen from by rw [hown]; exact R_own_new r4 hb1 _ _)
      have B4 := Lib.hid (((Only.of_below HB.out (fun _ => False)).step o4 (fun _ _ h => h)).below_all)
      clear b4 r4 HI HR HB o4 hown hb1 hl4
      have pe := dk_pending D4.out GY.out
      obtain ⟨m, hpm⟩ : ∃ m, y.pend.length = m := ⟨_, rfl⟩
      rw [hpm] at pe
      have HPM := Lib.hid hpm
      have PE := Lib.hid pe
      have hmm : m ≤ 140737488355328 := by have := PY.out; omega
      have hmk := fun u => make_bools m hmm u
      clear pe hpm
      go_wp2_with fail
      refine PE.out.mono ?_
      rintro e w' ⟨rfl, rfl⟩
      go_wp2_with fail
      have B5 := Lib.hid (((Only.of_below B4.out (fun _ => False)).alloc (.cells (bcells (List.replicate m false)).toArray 4)).below_all)
      have o5 : Only w4 (w4.alloc (.cells (bcells (List.replicate m false)).toArray 4)) (fun _ => False) := (Only.refl w4 _).alloc _
      obtain ⟨own3, hown⟩ : ∃ own3, own3 = upd own2 w4.heap.size 0 := ⟨_, rfl⟩
      have D5 := Lib.hid (show IsDisk _ w.heap.size (fun k => own3 k = 1) g y from by rw [hown]; exact IsDisk.own_old D4.out o5 (fun _ _ h => h) 0)
      have RB5 := Lib.hid (show (Kd.int .u8).R 5 _ w.heap.size (fun k => own3 k = 0) (.slice Ab (n * 32) cb0) x0.seen from by rw [hown]; exact R_own_old RB4.out o5 (fun _ _ h => h) 0)
      have RS5 := Lib.hid (show (Kd.int .u8).R 5 _ w.heap.size (fun k => own3 k = 0) (.slice As (n * 32) Cs) y.seen from by rw [hown]; exact R_own_old RS4.out o5 (fun _ _ h => h) 0)
      have W5 := Lib.hid (show Blk (w4.alloc (.cells (bcells (List.replicate m false)).toArray 4)) w4.heap.size 4 (bcells (List.replicate m false)) from Blk.new _ _ _)
      have HO5 := Lib.hid (show own3 w4.heap.size = 0 by rw [hown]; unfold upd; rw [if_neg (Nat.lt_irrefl _)])
      have hbw : w.heap.size ≤ w4.heap.size := B4.out.size
      clear D4 RB4 RS4 B4 o5 hown PE
      generalize w4.alloc (.cells (bcells (List.replicate m false)).toArray 4) = w5 at *
      generalize w4.heap.size = H at *
      clear hmk
      go_loopg [19] m (fun mm i wr => ∃ k : Nat, i = .int .i64 k ∧ Aside1 (k + mm = m ∧ Blk wr H 4 (bcells (List.replicate k true ++ List.replicate (m - k) false)) ∧ Only w5 wr (fun q => q = H)))
      case atStart => exact ⟨0, rfl, ⟨Nat.zero_add _, by simpa using W5.out, Only.refl _ _⟩⟩
      case round =>
        obtain ⟨k, rfl, hA⟩ := hrel
        have HM' := Lib.hid hA.out.1
        have HW := Lib.hid hA.out.2.1
        have HO := Lib.hid hA.out.2.2
        have W5h := W5
        clear hA W5
        have hwk : Hid (wrap64 ((k : Int) + 1) = ((k + 1 : Nat) : Int)) := Lib.hid (by have := HM'.out; unfold wrap64; omega)
        by_cases hkk : k < m
        · have hki : (k : Int) < (m : Int) := by omega
          have hk0 : (0 : Int) ≤ (k : Int) := by omega
          have hcell := HW.out.cell_at k (.bool false) (fill_get hkk)
          have hfr := HW.out.frozen k
          go_wp2
          have W6 := Lib.hid (HW.out.set_ k (.bool true))
          go_roundg (gk - 1)
          case measure => have := HM'.out; omega
          case rel => exact ⟨k + 1, (by first | exact congrArg (Value.int .i64) hwk.out | exact congrArg (Value.int .i64) (by omega)), ⟨by have := HM'.out; omega, by rw [← fill_set hkk]; exact W6.out, HO.out.setCell (p := ⟨H, k, none⟩) (fun _ => rfl) _⟩⟩
        · have hki : ¬ (k : Int) < (m : Int) := by omega
          obtain rfl : k = m := by have := HM'.out; omega
          have W6 := Lib.hid (show Blk wr H 4 (bcells (List.replicate k true)) by have := HW.out; rwa [Nat.sub_self, List.replicate_zero, List.append_nil] at this)
          have hHd : ∀ q, own3 q = 1 → q ≠ H := fun q hq e => by subst e; rw [HO5.out] at hq; cases hq
          have hHz : ∀ q, own3 q = 0 → q ≠ H ∨ q = H := fun q _ => by omega
          have D6 := Lib.hid (D5.out.keep HO.out hHd)
          have RB6 := Lib.hid (Kd.R_step (Kd.R_types RB5.out (show w5.heap[H]? = _ from W5h.out) (by decide)) (fun q hq hlt => HO.out.block q hlt hq.2))
          have RS6 := Lib.hid (Kd.R_step (Kd.R_types RS5.out (show w5.heap[H]? = _ from W5h.out) (by decide)) (fun q hq hlt => HO.out.block q hlt hq.2))
          have B6 := Lib.hid ((Only.of_below B5.out (fun _ => False)).step HO.out (fun q hq h => by omega)).below_all
          clear D5 RB5 RS5 B5 HW HO hHd hHz
          have hpl : (y.pend.length + 1) * 32 ≤ 140737488355328 := by have := PY.out; omega
          go_wp2_with fail
          refine (dk_copy D6.out GY.out hpl).mono ?_
          rintro e w7 ⟨gy, rfl, dy, b7⟩
          have hb6 : w.heap.size ≤ wr.heap.size := B6.out.size
          have o7 : Only wr w7 (fun _ => False) := Only.of_below b7 _
          obtain ⟨own4, hown⟩ : ∃ own4, own4 = upd own3 wr.heap.size 2 := ⟨_, rfl⟩
          have D7 := Lib.hid (show IsDisk w7 w.heap.size (fun q => own4 q = 1) g y from by rw [hown]; exact IsDisk.own_old D6.out o7 (fun _ _ h => h) 2)
          have Y7 := Lib.hid (show IsDisk w7 w.heap.size (fun q => own4 q = 2) gy y from by rw [hown]; exact IsDisk.own_new dy hb6 _ _)
          have RB7 := Lib.hid (show (Kd.int .u8).R 5 w7 w.heap.size (fun q => own4 q = 0) (.slice Ab (n * 32) cb0) x0.seen from by rw [hown]; exact R_own_old (Kd.R_mono RB6.out (fun q hq => hq.1)) o7 (fun _ _ h => h) 2)
          have RS7 := Lib.hid (show (Kd.int .u8).R 5 w7 w.heap.size (fun q => own4 q = 0) (.slice As (n * 32) Cs) y.seen from by rw [hown]; exact R_own_old (Kd.R_mono RS6.out (fun q hq => hq.1)) o7 (fun _ _ h => h) 2)
          have W7 := Lib.hid (W6.out.below b7 W6.out.lt)
          have HO7 := Lib.hid (show own4 H = 0 by rw [hown]; unfold upd; rw [if_pos W6.out.lt]; exact HO5.out)
          have B7 := Lib.hid (((Only.of_below B6.out (fun _ => False)).step o7 (fun _ _ h => h)).below_all)
          clear b7 dy D6 RB6 RS6 W6 B6 o7 hown HO5
          go_wp2_with fail
          refine (dk_copy D7.out GY.out hpl).mono ?_
          rintro e w8 ⟨gz, rfl, dz, b8⟩
          have hb7 : w.heap.size ≤ w7.heap.size := B7.out.size
          have o8 : Only w7 w8 (fun _ => False) := Only.of_below b8 _
          obtain ⟨own5, hown⟩ : ∃ own5, own5 = upd own4 w7.heap.size 3 := ⟨_, rfl⟩
          have Y8 := Lib.hid (show IsDisk w8 w.heap.size (fun q => own5 q = 2) gy y from by rw [hown]; exact IsDisk.own_old Y7.out o8 (fun _ _ h => h) 3)
          have Z8 := Lib.hid (show IsDisk w8 w.heap.size (fun q => own5 q = 3) gz y from by rw [hown]; exact IsDisk.own_new dz hb7 _ _)
          have RB8 := Lib.hid (show (Kd.int .u8).R 5 w8 w.heap.size (fun q => own5 q = 0) (.slice Ab (n * 32) cb0) x0.seen from by rw [hown]; exact R_own_old RB7.out o8 (fun _ _ h => h) 3)
          have RS8 := Lib.hid (show (Kd.int .u8).R 5 w8 w.heap.size (fun q => own5 q = 0) (.slice As (n * 32) Cs) y.seen from by rw [hown]; exact R_own_old RS7.out o8 (fun _ _ h => h) 3)
          have W8 := Lib.hid (W7.out.below b8 W7.out.lt)
          have HO8 := Lib.hid (show own5 H = 0 by rw [hown]; unfold upd; rw [if_pos W7.out.lt]; exact HO7.out)
          have B8 := Lib.hid (((Only.of_below B7.out (fun _ => False)).step o8 (fun _ _ h => h)).below_all)
          clear b8 dz D7 Y7 RB7 RS7 W7 B7 o8 hown HO7 hb6 hb7
          have ck := C_bools (n := k) W8.out (by simp) (by simp; omega)
          have cy := dk_crash Y8.out.bound GY.out hpl (some ⟨H, 0, none⟩) k (List.replicate k true) (-1) 0 (by omega) (by omega) (by simpa using ck) (fun ad he _ hh => by cases he; have h9 := hh.1; rw [HO8.out] at h9; cases h9) (by simp)
          rw [List.length_replicate] at cy
          have CY := Lib.hid cy
          clear ck cy
          go_wp2_with fail
          refine CY.out.mono ?_
          rintro e w9 ⟨rfl, d9, o9⟩
          have Y9 := Lib.hid d9
          have Z9 := Lib.hid (Z8.out.keep o9 (fun q hq h => by rw [hq] at h; exact absurd h.1 (by decide)))
          have RB9 := Lib.hid (Kd.R_step RB8.out (fun q hq hlt => o9.block q hlt (fun h => by rw [hq] at h; exact absurd h.1 (by decide))))
          have RS9 := Lib.hid (Kd.R_step RS8.out (fun q hq hlt => o9.block q hlt (fun h => by rw [hq] at h; exact absurd h.1 (by decide))))
          have B9 := Lib.hid ((Only.of_below B8.out (fun _ => False)).step o9 (fun q hq h => by have := h.2.1; omega)).below_all
          clear d9 o9 Y8 Z8 RB8 RS8 B8 W8 HO8 CY
          have C0 : Kd.bool.C w9 none 0 [] := ⟨rfl, by omega, fun h => absurd h (by omega)⟩
          have CZ := Lib.hid (dk_crash Z9.out.bound GY.out hpl none 0 [] torn cut h0 h1 C0 (fun ad he => by cases he) (Nat.le_refl _))
          clear C0
          go_wp2_with fail
          refine CZ.out.mono ?_
          rintro e w10 ⟨rfl, d10, o10⟩
          have Z10 := Lib.hid d10
          have Y10 := Lib.hid (Y9.out.keep o10 (fun q hq h => by have h9 := h.1; rw [hq.1] at h9; cases h9))
          have RB10 := Lib.hid (Kd.R_step RB9.out (fun q hq hlt => o10.block q hlt (fun h => by rw [hq] at h; exact absurd h.1 (by decide))))
          have RS10 := Lib.hid (Kd.R_step RS9.out (fun q hq hlt => o10.block q hlt (fun h => by rw [hq] at h; exact absurd h.1 (by decide))))
          have B10 := Lib.hid ((Only.of_below B9.out (fun _ => False)).step o10 (fun q hq h => by have := h.2.1; omega)).below_all
          clear d10 o10 Y9 Z9 RB9 RS9 B9 CZ
          have SY := Lib.hid (show (y.crash (List.replicate k true) (-1) 0).seen = y.seen from WY.out _ (fun t ht => by rw [HPM.out] at ht; simp [List.getD_eq_getElem?_getD, List.getElem?_replicate, ht]))
          have SZ := Lib.hid (show (y.crash [] torn cut).seen = x0.seen by show crashN [] torn cut y.kept y.pend y.pend.length = x0.seen; rw [crash_nil_keep, KY.out, HK0.out])
          have GYc := Lib.hid (GY.out.crash (List.replicate k true) (-1) 0 (by omega) (by omega))
          have GZc := Lib.hid (GY.out.crash [] torn cut h0 h1)
          go_wp2_with fail
          refine (all_any Y10 GYc.out (by show (-1 : Int) ≠ 0; decide)).mono ?_
          rintro e w11 ⟨v11, rfl, r11, b11⟩
          rw [SY.out] at r11
          have hyl := GY.out.seen
          have E11 := Lib.hid (same_rows r11 (Kd.R_below RS10.out b11) (by rw [hyl]; omega) rfl)
          have o11 : Only w10 w11 (fun _ => False) := Only.of_below b11 _
          have Y11 := Lib.hid (Y10.out.keep o11 (fun _ _ h => h))
          have Z11 := Lib.hid (Z10.out.keep o11 (fun _ _ h => h))
          have RB11 := Lib.hid (Kd.R_step RB10.out (fun q hq hlt => o11.block q hlt (fun h => h)))
          have B11 := Lib.hid ((Only.of_below B10.out (fun _ => False)).step o11 (fun _ _ h => h)).below_all
          clear b11 r11 o11 Y10 Z10 RB10 RS10 B10 hyl
          go_wp2_with fail
          refine E11.out.mono ?_
          rintro e w12 ⟨rfl, b12⟩
          have o12 : Only w11 w12 (fun _ => False) := Only.of_below b12 _
          have Y12 := Lib.hid (Y11.out.keep o12 (fun _ _ h => h))
          have Z12 := Lib.hid (Z11.out.keep o12 (fun _ _ h => h))
          have RB12 := Lib.hid (Kd.R_step RB11.out (fun q hq hlt => o12.block q hlt (fun h => h)))
          have B12 := Lib.hid ((Only.of_below B11.out (fun _ => False)).step o12 (fun _ _ h => h)).below_all
          clear b12 o12 Y11 Z11 RB11 B11 E11
          go_wp2_with fail
          refine (all_any Z12 GZc.out (by show (-1 : Int) ≠ 0; decide)).mono ?_
          rintro e w13 ⟨v13, rfl, r13, b13⟩
          rw [SZ.out] at r13
          have E13 := Lib.hid (same_rows r13 (Kd.R_below RB12.out b13) (by rw [G0.out]; omega) rfl)
          have o13 : Only w12 w13 (fun _ => False) := Only.of_below b13 _
          have Y13 := Lib.hid (Y12.out.keep o13 (fun _ _ h => h))
          have B13 := Lib.hid ((Only.of_below B12.out (fun _ => False)).step o13 (fun _ _ h => h)).below_all
          clear b13 r13 o13 Y12 Z12 RB12 B12
          go_wp2_with fail
          refine E13.out.mono ?_
          rintro e w14 ⟨rfl, b14⟩
          have o14 : Only w13 w14 (fun _ => False) := Only.of_below b14 _
          have B14 := Lib.hid ((Only.of_below B13.out (fun _ => False)).step o14 (fun _ _ h => h)).below_all
          have P14 := Lib.hid (show Calls Try.prog 23 #[.pointer (some ⟨gy, 0, none⟩)] w14 (fun e w' => e = .returned (.int .i64 0) ∧ w14 = w') from dk_pending (Y13.out.keep o14 (fun _ _ h => h)) GYc.out)
          clear b14 o14 Y13 B13 E13
          go_wp2_with fail
          refine P14.out.mono ?_
          rintro e w' ⟨rfl, rfl⟩
          go_wp2
          go_ret
          exact ⟨rfl, B14.out⟩
end Go.Proofs.Ytgiidddmhnnnjaa.Dk
