/- DiskTears, walked. -/
import Derived.Test.YtgiidddmhnnnjaaDisk13
namespace Go.Proofs.Ytgiidddmhnnnjaa.Dk
open Go.RowKit Go.Proofs.Ytgiidddmhnnnjaa.Mem Go.Proofs.YtgiidddmhnnnjaaW.PrintWords
set_option linter.unusedVariables false
set_option linter.unusedSimpArgs false
set_option maxHeartbeats 4000000 in
set_option maxRecDepth 100000 in
theorem tears_any (s : Int) (A A2 A3 : Option Addr) (c c2 c3 : Nat) (script more : List OpV) (keep : List Bool) (torn cut : Int) (w : World) (hs : Hid (Script w A c script)) (hm : Hid (Script w A2 c2 more)) (hk : Hid (Kd.bool.C w A3 keep.length keep)) (hkc : keep.length ≤ c3) (hkl : keep.length ≤ 140737488351232) (h0 : 0 ≤ cut) (h1 : cut ≤ 32) :
    Calls Try.prog 3 #[.int .i64 s, .slice A script.length c, .slice A2 more.length c2, .slice A3 keep.length c3, .int .i64 torn, .int .i64 cut] w fun e w' => e = .returned (.bool true) ∧ Below w.heap.size w w' := by
  have hgr := grown_good s script hs.out.ok
  obtain ⟨n, hn⟩ : ∃ n, sectorsOf s = n := ⟨_, rfl⟩
  obtain ⟨x, hx⟩ : ∃ x, grownN (sectorsOf s) script script.length = x := ⟨_, rfl⟩
  have HX := Lib.hid hx
  rw [hn] at hgr
  rw [hn] at hx
  rw [hx] at hgr
  have GR := Lib.hid hgr
  have hn0 : 1 ≤ n ∧ n ≤ 64 := by rw [← hn]; exact sectorsOf_le s
  clear hgr hx hn
  go_enter Try.func3, Try.ntmps3
  go_wp2_with fail
  refine (grown_script s A c script w hs.out).mono ?_
  rintro e w1 ⟨g, rfl, d1, b1⟩
  rw [HX.out] at d1
  have D1 := Lib.hid d1
  have B1 := Lib.hid b1
  clear d1 b1
  go_wp2_with fail
  refine (awake_any w1).mono ?_
  rintro e w2 ⟨rfl, b2⟩
  have D2 := Lib.hid (D1.out.keep (Only.of_below b2 (fun _ => False)) (fun _ _ h => h))
  have B2 := Lib.hid (((Only.of_below B1.out (fun _ => False)).step (Only.of_below b2 (fun _ => False)) (fun _ _ h => h)).below_all)
  clear b2 D1 B1
  go_wp2_with fail
  refine (dk_barrier (D2.out.bound) GR.out.good GR.out.good.n2 (by rw [GR.out.life]; decide)).mono ?_
  rintro e w3 ⟨rfl, d3, o3⟩
  obtain ⟨x0, hx0⟩ : ∃ x0, x.barrier = x0 := ⟨_, rfl⟩
  have hT := tear_ok (x0 := x0) (n := n) (by rw [← hx0]; exact GR.out.good.barrier) (by rw [← hx0]; show spent x.life = -1; rw [GR.out.life]; decide) (by rw [← hx0]; rfl) (by rw [← hx0]; rfl) more hm.out.ok
  rw [hx0] at d3
  have HT := Lib.hid hT
  have D3 := Lib.hid d3
  have B3 := Lib.hid ((Only.of_below B2.out (fun _ => False)).step o3 (fun q hq h => by have := h.2.1; omega)).below_all
  clear hx0 hT d3 o3 D2 B2
  go_wp2_with fail
  refine (all_any D3 (HT.out 0).good (by rw [show x0.life = -1 from (HT.out 0).life]; decide)).mono ?_
  rintro e w4 ⟨v, rfl, r4, b4⟩
  have hl4 : x0.seen.length = n * 32 := (HT.out 0).good.seen
  obtain ⟨A4, C4, e4⟩ := Kd.R_slice r4
  subst e4
  rw [hl4] at r4 ⊢
  have hb3 : w.heap.size ≤ w3.heap.size := B3.out.size
  have o4 : Only w3 w4 (fun _ => False) := Only.of_below b4 _
  obtain ⟨own, hown⟩ : ∃ own, own = upd (fun _ => 1) w3.heap.size 0 := ⟨_, rfl⟩
  have d4 : IsDisk w4 w.heap.size (fun k => own k = 1) g x0 := by rw [hown]; exact IsDisk.own_old (D3.out.mono (fun _ _ => rfl)) o4 (fun _ _ h => h) 0
  have r4' : (Kd.int .u8).R 5 w4 w.heap.size (fun k => own k = 0) (.slice A4 (n * 32) C4) x0.seen := by rw [hown]; exact R_own_new r4 hb3 _ _
  have B4 := Lib.hid (((Only.of_below B3.out (fun _ => False)).step o4 (fun _ _ h => h)).below_all)
  have hb4 : w.heap.size ≤ w4.heap.size := B4.out.size
  have r5 := R_own_mod (rows_one (e := 29) r4' hb4)
  have D5 := Lib.hid (IsDisk.own_old d4 ((Only.refl w4 (fun _ => False)).alloc (.cells #[.slice A4 (n * 32) C4] 29)) (fun _ _ h => h) 0)
  have R5 := Lib.hid r5
  have B5 := Lib.hid (((Only.of_below B4.out (fun _ => False)).alloc (.cells #[.slice A4 (n * 32) C4] 29)).below_all)
  clear b4 r4 D3 B3 o4 d4 r4' hown r5 B4
  go_wp2_with fail
  generalize upd own w4.heap.size 0 = own0 at *
  generalize w4.alloc (.cells #[.slice A4 (n * 32) C4] 29) = w5 at *
  generalize w4.heap.size = H5 at *
  clear hb4 hb3
  go_loopg [14, 15] more.length (fun m mv i wr => ∃ (k : Nat) (own : Nat → Nat) (Am : Option Addr) (nm cm : Nat), i = .int .i64 k ∧ mv = .slice Am nm cm ∧ Aside1 (k + m = more.length ∧ IsDisk wr w.heap.size (fun q => own q = 1) g (putsN x0 n more k) ∧ (Kd.slice 5 (Kd.int .u8)).R 29 wr w.heap.size (fun q => own q = 0) (.slice Am nm cm) (maysN x0 n more k) ∧ Below w.heap.size w wr))
  case atStart => exact ⟨0, own0, some ⟨H5, 0, none⟩, 1, 1, rfl, rfl, ⟨Nat.zero_add _, D5.out, R5.out, B5.out⟩⟩
  case round =>
    obtain ⟨k, own, Am, nm, cm, rfl, rfl, hA⟩ := hrel
    have HM := Lib.hid hA.out.1
    have HI := Lib.hid hA.out.2.1
    have HR := Lib.hid hA.out.2.2.1
    have HB := Lib.hid hA.out.2.2.2
    have hms := hm.out.size
    clear hA D5 R5 B5
    have hw1 : Hid (wrap64 ((k : Int) + 1) = ((k + 1 : Nat) : Int)) := Lib.hid (by have := HM.out; unfold wrap64; omega)
    by_cases hkk : k < more.length
    · have hki : (k : Int) < (more.length : Int) := by omega
      have hk0 : (0 : Int) ≤ (k : Int) := by omega
      obtain ⟨ad, o1, o2, o3, o4, o5, oB, oK, AB, cB, AK, cK, rfl, e1, cs, e3, cb, e5, ck, e7, e8, e9⟩ := op_held hm.out k hkk
      have HE := Lib.hid e1
      have CS := Lib.hid cs
      have CB := Lib.hid cb
      have CK := Lib.hid ck
      have x0' := (cs wr HB.out).1
      clear e1 cs cb ck
      by_cases hW : isW (o1, o2, o3, o4, o5, oB, oK)
      · have WW := Lib.hid hW
        have hcase : o1 < 1 ∨ (¬ o1 < 1 ∧ 5 < o1) := by
          have hW : o1 < 1 ∨ 5 < o1 := hW
          omega
        clear hW
        rcases hcase with hlo | ⟨hlo, hhi⟩
        all_goals
          have hT := HT.out k
          obtain ⟨bb, hbb⟩ : ∃ bb, bb = bytesOf (o1, o2, o3, o4, o5, oB, oK) := ⟨_, rfl⟩
          have HBB := Lib.hid hbb
          have hpl3 : ((putsN x0 n more k).pend.length + 1) * 32 ≤ 140737488355328 := by have := hT.plen; omega
          have HTK := Lib.hid hT
          have HBd : Hid (Below w.heap.size w wr.drew) := Lib.hid ((Only.of_below HB.out (fun _ => False)).drew).below_all
          have HV := Lib.hid (HI.out.bound)
          have HAP : Hid (∀ q, (own q = 1 ∧ w.heap.size ≤ q ∧ q < wr.heap.size) → q < wr.drew.heap.size) := Lib.hid (fun q hq => hq.2.2)
          clear hT hbb
          go_wp2_with fail
          go_region_held3 (fun w' => w'.cell? (ad.add (k * 7)) = some (.int .i64 o1) ∧ w'.cell? ⟨(ad.add (k * 7)).block, (ad.add (k * 7)).off + 1, none⟩ = some (.int .i64 o2) ∧ w'.cell? ⟨(ad.add (k * 7)).block, (ad.add (k * 7)).off + 2, none⟩ = some (.int .i64 o3) ∧ w'.cell? ⟨(ad.add (k * 7)).block, (ad.add (k * 7)).off + 3, none⟩ = some (.int .i64 o4) ∧ w'.cell? ⟨(ad.add (k * 7)).block, (ad.add (k * 7)).off + 4, none⟩ = some (.bool o5) ∧ w'.cell? ⟨(ad.add (k * 7)).block, (ad.add (k * 7)).off + 5, none⟩ = some (.slice AB oB.length cB) ∧ w'.cell? ⟨(ad.add (k * 7)).block, (ad.add (k * 7)).off + 6, none⟩ = some (.slice AK oK.length cK)) (exact CS.out _ (by first | exact HBd.out | exact HB2.out | exact HB4.out)) (first
            | (go_at_call 15; refine (bytes_any o1 o2 o3 o4 o5 oB oK AB AK cB cK _ (CB.out _ HBd.out) e3 (CK.out _ HBd.out) e5 e7).mono ?_; rintro e w2 ⟨v, rfl, r2, b2⟩; rw [← HBB.out] at r2; obtain ⟨A2, c2', ev2⟩ := Kd.R_slice r2; subst ev2; have R2 := Lib.hid r2; have B2 := Lib.hid b2; have HB2 := Lib.hid (((Only.of_below HBd.out (fun _ => False)).step (Only.of_below b2 (fun _ => False)) (fun _ _ h => h)).below_all); clear r2 b2)
            | (go_at_call 14; refine (dk_put ((HV.out.keep ((Only.refl wr (fun _ => False)).drew) (fun _ _ h => h)).keep (Only.of_below B2.out (fun _ => False)) (fun _ _ h => h)) HTK.out.good HB2.out.size hpl3 (by rw [HTK.out.life]; decide) o2 wr.drew.heap.size (fun _ => True) A2 c2' bb R2.out HAP.out).mono ?_; rintro e w4 ⟨⟨r4, rfl⟩, d4, o4⟩; have D4 := Lib.hid d4; have O4 := Lib.hid o4; have HB4 := Lib.hid ((Only.of_below HB2.out (fun _ => False)).step o4 (fun q hq h => absurd h.2.1 (by omega))).below_all; clear d4 o4))
          all_goals
            have hsz2 : wr.heap.size ≤ w2.heap.size := B2.out.size
            obtain ⟨own1, hown1⟩ : ∃ own1, own1 = upd own w2.heap.size 1 := ⟨_, rfl⟩
            have D5 := Lib.hid (show IsDisk w4 w.heap.size (fun q => own1 q = 1) g (putsN x0 n more (k + 1)) from by
              rw [hown1, putsN_w HE.out WW.out, DV.put, ← HBB.out]
              exact IsDisk.own_mod (D4.out.mono (fun q hq => hq.imp (fun h => h.1) id)))
            have R5 := Lib.hid (show (Kd.slice 5 (Kd.int .u8)).R 29 w4 w.heap.size (fun q => own1 q = 0) (.slice Am nm cm) (maysN x0 n more k) from by
              rw [hown1]
              exact R_own_old (Kd.R_step HR.out (fun q hq hlt => B2.out.block q hlt)) O4.out (fun q hq h => by rw [hq] at h; exact absurd h.1 (by decide)) 1)
            clear D4 O4 hown1 HV HAP HB2 B2 R2 HR HI hsz2
            go_wp2_with fail
            refine (all_any D5 (HT.out (k + 1)).good (by rw [(HT.out (k + 1)).life]; decide)).mono ?_
            rintro e w6 ⟨v, rfl, r6, b6⟩
            obtain ⟨A6, C6, e6⟩ := Kd.R_slice r6
            subst e6
            have o6 : Only w4 w6 (fun _ => False) := Only.of_below b6 _
            obtain ⟨own2, hown2⟩ : ∃ own2, own2 = upd own1 w4.heap.size 0 := ⟨_, rfl⟩
            have D6 := Lib.hid (show IsDisk w6 w.heap.size (fun q => own2 q = 1) g (putsN x0 n more (k + 1)) from by rw [hown2]; exact IsDisk.own_old D5.out o6 (fun _ _ h => h) 0)
            have R6 := Lib.hid (show (Kd.slice 5 (Kd.int .u8)).R 29 w6 w.heap.size (fun q => own2 q = 0) (.slice Am nm cm) (maysN x0 n more k) from by rw [hown2]; exact R_own_old R5.out o6 (fun _ _ h => h) 0)
            have N6 := Lib.hid (show (Kd.int .u8).R 5 w6 w.heap.size (fun q => q ≥ w4.heap.size) (.slice A6 (putsN x0 n more (k + 1)).seen.length C6) (putsN x0 n more (k + 1)).seen from Kd.R_lower (Kd.R_mono (Kd.R_bound r6) (fun q hq => hq.2.1)) HB4.out.size)
            have HB6 := Lib.hid ((Only.of_below HB4.out (fun _ => False)).step o6 (fun _ _ h => h)).below_all
            have NP : Hid (∀ q, q ≥ w4.heap.size → (own2 q = 0 ∨ w6.heap.size ≤ q) ∧ some q ≠ Value.ownBlock (.slice Am nm cm)) := Lib.hid (fun q hq => ⟨.inl (by rw [hown2]; unfold upd; rw [if_neg (by omega)]), fun e => by have := Kd.R_lt R5.out q e.symm; omega⟩)
            have hlm : ((maysN x0 n more k).length + 1) * 24 ≤ 140737488355328 := by have := HTK.out.mlen; omega
            clear b6 r6 o6 D5 R5 hown2 HB4
            have info29 : (Try.prog.info? 29).map (fun i => (i.zero, i.size, i.bytes)) = some (some (.slice none 0 0), 1, 24) := by kernel_rfl
            have DONE : Hid (∀ (v7 : Value) (w7 : World), (Kd.slice 5 (Kd.int .u8)).R 29 w7 w.heap.size (fun q => own2 q = 0 ∨ w6.heap.size ≤ q) v7 (maysN x0 n more k ++ [(putsN x0 n more (k + 1)).seen]) → w6.grownBy w7 (Value.ownBlock (.slice Am nm cm)) →
                IsDisk w7 w.heap.size (fun q => upd own2 w6.heap.size 0 q = 1) g (putsN x0 n more (k + 1)) ∧ (Kd.slice 5 (Kd.int .u8)).R 29 w7 w.heap.size (fun q => upd own2 w6.heap.size 0 q = 0) v7 (maysN x0 n more (k + 1))) := Lib.hid (fun v7 w7 hR hg => by
              refine ⟨IsDisk.own_old D6.out (Only.of_grown hg) (fun q hq e => by have := R6.out.1 q e.symm; omega) 0, ?_⟩
              rw [maysN_w HE.out WW.out]
              exact R_own_mod hR)
            go_wp2_with (first
              | ((with_reducible refine gate_builtin (b := .append) (xs := #[.tmp 79, .tmp 82]) rfl ?_); at_builtin; refine Kd.R_append (Kd.slice 5 (Kd.int .u8)) (w0 := w) w.heap.size rfl (.tmp 79) (.tmp 82) 31 29 (.slice none 0 0) 24 rfl Try.underlying31 info29 rfl (by decide) (by omega) (.slice Am nm cm) (maysN x0 n more k) (putsN x0 n more (k + 1)).seen [.slice A6 _ C6] (fun q => own2 q = 0 ∨ w6.heap.size ≤ q) (fun q => q ≥ w4.heap.size) rfl rfl ⟨_, rfl, N6.out⟩ NP.out (fun q hq => .inr hq) (Kd.R_mono R6.out (fun q hq => .inl hq)) HB6.out HB6.out.size hlm ?_; intro v7 w7 hR7 hb7 hg7 hat7; have hd7 := DONE.out v7 w7 hR7 hg7; obtain ⟨A7, c7, ev7⟩ := Kd.R_slice hR7; obtain ⟨n7, hn7⟩ : ∃ n7, n7 = (maysN x0 n more k ++ [(putsN x0 n more (k + 1)).seen]).length := ⟨_, rfl⟩; rw [← hn7] at ev7; clear hn7; subst ev7; have D7 := Lib.hid hd7.1; have R7 := Lib.hid hd7.2; have B7 := Lib.hid hb7; clear hR7 hb7 hg7 hat7 hd7)
              | fail)
            go_roundg (gk - 1)
            case measure => have := HM.out; omega
            case rel => exact ⟨k + 1, _, A7, n7, c7, (by first | exact congrArg (Value.int .i64) hw1.out | exact congrArg (Value.int .i64) (by omega)), rfl, ⟨by have := HM.out; omega, D7.out, R7.out, B7.out⟩⟩
      · have NW := Lib.hid hW
        have hW' : ¬ (o1 < 1 ∨ 5 < o1) := hW
        have hlo : ¬ o1 < 1 := by omega
        have hhi : ¬ 5 < o1 := by omega
        clear hW hW'
        go_wp2
        go_roundg (gk - 1)
        case measure => have := HM.out; omega
        case rel => exact ⟨k + 1, own, Am, nm, cm, (by first | exact congrArg (Value.int .i64) hw1.out | exact congrArg (Value.int .i64) (by omega)), rfl, ⟨by have := HM.out; omega, by rw [putsN_n HE.out NW.out]; exact HI.out, by rw [maysN_n HE.out NW.out]; exact HR.out, HB.out⟩⟩
    · have hki : ¬ (k : Int) < (more.length : Int) := by omega
      obtain rfl : k = more.length := by have := HM.out; omega
      have HTK := Lib.hid (HT.out more.length)
      clear HT hw1 hkk
      have info4 : (Try.prog.info? 4).map (fun i => (i.zero, i.size, i.bytes)) = some (some (.bool false), 1, 1) := by kernel_rfl
      have HBe : Hid (Below wr.heap.size wr (wr.alloc (.cells #[] 4))) := Lib.hid (((Only.refl wr (fun _ => False))).alloc _).below_all
      have HRe : Hid (Kd.bool.R 4 (wr.alloc (.cells #[] 4)) wr.heap.size (fun _ => True) (.slice (some ⟨wr.heap.size, 0, none⟩) 0 0) []) := Lib.hid (Kd.R_of_own ⟨rfl, .inr ⟨wr.heap.size, 0, #[], rfl, Nat.le_refl _, heap_alloc_new _ _, Nat.le_refl _, by unfold maxLen; omega, rfl, rfl⟩⟩ (fun _ _ => trivial))
      have hLL : (([] : List Bool).length + keep.length) * 1 ≤ 140737488355328 := by simp; omega
      have HCK : Hid (Kd.bool.C (wr.alloc (.cells #[] 4)) A3 keep.length keep) := Lib.hid (Kd.C_below hk.out (((Only.of_below HB.out (fun _ => False)).step (Only.of_below HBe.out (fun _ => False)) (fun _ _ h => h)).below_all))
      go_wp2_with (first
        | ((with_reducible refine gate_builtin (b := .append) (xs := #[.tmp 85, .tmp 86]) rfl ?_); at_builtin; refine Kd.R_append_rows Kd.bool (w0 := wr) wr.heap.size rfl (.tmp 85) (.tmp 86) 23 4 (.bool false) 1 rfl Try.underlying23 info4 rfl (by decide) (by omega) (.slice (some ⟨wr.heap.size, 0, none⟩) 0 0) [] keep _ _ _ (fun _ => True) (fun _ => False) rfl rfl HRe.out HCK.out (fun _ _ h => h) (fun _ h => h.elim) (fun _ _ => trivial) HBe.out HBe.out.size hLL ?_; intro v7 w7 hR7 hb7 hg7 hat7; rw [List.nil_append] at hR7; obtain ⟨A7, c7, ev7⟩ := Kd.R_slice hR7; subst ev7; have R7 := Lib.hid hR7; have B7 := Lib.hid hb7; clear hR7 hb7 hg7 hat7)
        | fail)
      have D7 := HI.out.bound.keep (Only.of_below B7.out (fun _ => False)) (fun _ _ h => h)
      have HR7 := Kd.R_step HR.out (fun q hq hlt => B7.out.block q hlt)
      have HB7 := Lib.hid (((Only.of_below HB.out (fun _ => False)).step (Only.of_below B7.out (fun _ => False)) (fun _ _ h => h)).below_all)
      refine (dk_crash D7 HTK.out.good (by have := HTK.out.plen; omega) A7 c7 keep torn cut h0 h1 (Kd.R_reads' R7.out).2.2 (fun ad he _ hh => by subst he; have := Kd.R_base R7.out ad.block rfl; omega) (Kd.R_reads' R7.out).2.1).mono ?_
      rintro e w8 ⟨rfl, d8, o8⟩
      have HR8 := Lib.hid (Kd.R_step HR7 (fun q hq hlt => o8.block q hlt (fun h => by rw [hq] at h; exact absurd h.1 (by decide))))
      have HB8 := Lib.hid ((Only.of_below HB7.out (fun _ => False)).step o8 (fun q hq h => by have := h.2.1; omega)).below_all
      have G8 := HTK.out.good.crash keep torn cut h0 h1
      have KEY := Lib.hid (tear_crash HTK.out keep torn cut h0 h1 (putsN x0 n more more.length).pend.length)
      have LEN := Lib.hid HTK.out.all
      have MLN := Lib.hid HTK.out.mlen
      obtain ⟨y, hy⟩ : ∃ y, (putsN x0 n more more.length).crash keep torn cut = y := ⟨_, rfl⟩
      have hys : crashN keep torn cut (putsN x0 n more more.length).kept (putsN x0 n more more.length).pend (putsN x0 n more more.length).pend.length = y.seen := by rw [← hy]; rfl
      have hyl : y.life = -1 := by rw [← hy]; rfl
      rw [hy] at d8 G8
      rw [hys] at KEY
      have D8 := Lib.hid d8
      have GY := Lib.hid G8
      have LY := Lib.hid hyl
      obtain ⟨may, hmay⟩ : ∃ may, maysN x0 n more more.length = may := ⟨_, rfl⟩
      rw [hmay] at HR8 KEY LEN MLN
      clear hy hys hyl hmay d8 G8 D7 HR7 HB7 o8 R7 B7 HI HR HB HTK HBe HRe HCK hLL
      go_wp2_with fail
      refine (all_any D8 GY.out (by rw [LY.out]; decide)).mono ?_
      rintro e w9 ⟨v, rfl, r9, b9⟩
      have hl9 := GY.out.seen
      obtain ⟨A9, C9, e9⟩ := Kd.R_slice r9
      subst e9
      rw [hl9] at r9 ⊢
      have HR9 := Lib.hid (Kd.R_step HR8.out (fun q hq hlt => b9.block q hlt))
      have HN9 := Lib.hid r9
      have HB9 := Lib.hid ((Only.of_below HB8.out (fun _ => False)).step (Only.of_below b9 (fun _ => False)) (fun _ _ h => h)).below_all
      clear HR8 HB8 D8 r9 b9
      go_wp2_with fail
      have hn32 : n * 32 ≤ 2048 := by omega
      obtain rfl : nm = may.length := (Kd.R_reads' HR9.out).1
      go_loopg [17] (n * 32) (fun m kv wz => ∃ k : Nat, kv = .int .i64 k ∧ Aside1 (k + m = n * 32 ∧ Below w9.heap.size w9 wz))
      case atStart => exact ⟨0, rfl, ⟨Nat.zero_add _, Below.refl _ _⟩⟩
      case round =>
        obtain ⟨k, rfl, hA⟩ := hrel
        have HM := Lib.hid hA.out.1
        have HZ := Lib.hid hA.out.2
        clear hA
        by_cases hkk : k < n * 32
        · have hki2 : (k : Int) < (n : Int) * 32 := by omega
          go_wp2_with fail
          obtain ⟨wo, hwo⟩ : ∃ wo, wo = wr := ⟨_, rfl⟩
          subst hwo
          obtain ⟨go, hgo⟩ : ∃ go, go = gk := ⟨_, rfl⟩
          subst hgo
          go_loopg [18, 19] may.length (fun m fv iv wz => ∃ (i : Nat) (f : Bool), fv = .bool f ∧ iv = .int .i64 i ∧ Aside1 (i + m = may.length ∧ Below w9.heap.size w9 wz ∧ (f = false → ∀ i', i' < i → ∀ q, may[i']? = some q → q[k]? ≠ y.seen[k]?)))
          case atStart => exact ⟨0, false, rfl, rfl, ⟨Nat.zero_add _, HZ.out, fun _ i' hi' => absurd hi' (Nat.not_lt_zero _)⟩⟩
          case round =>
            obtain ⟨i, f, rfl, rfl, hA⟩ := hrel
            have HMi := Lib.hid hA.out.1
            have HZi := Lib.hid hA.out.2.1
            have HF := Lib.hid hA.out.2.2
            clear hA
            have hwi : Hid (wrap64 ((i : Int) + 1) = ((i + 1 : Nat) : Int)) := Lib.hid (by have := HMi.out; have := MLN.out; unfold wrap64; omega)
            have hwk : Hid (wrap64 ((k : Int) + 1) = ((k + 1 : Nat) : Int)) := Lib.hid (by have := HM.out; unfold wrap64; omega)
            by_cases hi : i < may.length
            · cases f with
              | true =>
                go_wp2
                go_roundg (go - 1)
                case measure => have := HM.out; omega
                case rel => exact ⟨k + 1, (by first | exact congrArg (Value.int .i64) hwk.out | exact congrArg (Value.int .i64) (by omega)), ⟨by have := HM.out; omega, HZi.out⟩⟩
              | false =>
                have hi0 : (0 : Int) ≤ (i : Int) := by omega
                have hk0 : (0 : Int) ≤ (k : Int) := by omega
                obtain ⟨ad, rfl, hC⟩ := (Kd.R_reads' HR9.out).2.2.2.2 (by omega)
                obtain ⟨q, hq⟩ : ∃ q, may[i]? = some q := ⟨_, List.getElem?_eq_getElem hi⟩
                obtain ⟨cs, hcl, ⟨Aq, cq, rfl, hlq, hRq⟩, hcell⟩ := hC i q hq
                have hql := LEN.out q (List.mem_of_getElem? hq)
                have hyl := GY.out.seen
                obtain ⟨adq, rfl, hcq⟩ := C_cells hRq (by omega)
                obtain ⟨adn, rfl, hcn⟩ := C_cells (Kd.R_reads' HN9.out).2.2 (by rw [hyl]; omega)
                have hc0 : w9.cell? (ad.add i) = some (.slice (some adq) (n * 32) cq) := by
                  have := hcell 0 _ rfl
                  rw [hql] at this
                  rwa [show (Kd.slice 5 (Kd.int .u8)).sz = 1 from rfl, show i * 1 + 0 = i by omega] at this
                have x1 := (HZi.out.cell (World.block_lt_of_cell? _ _ hc0)).trans hc0
                have hc1 := hcq k _ (icells_get .u8 q k (by omega))
                have x2 := (HZi.out.cell (World.block_lt_of_cell? _ _ hc1)).trans hc1
                have hc2 := hcn k _ (icells_get .u8 y.seen k (by omega))
                have x3 := (HZi.out.cell (World.block_lt_of_cell? _ _ hc2)).trans hc2
                have hqk : q[k]? = some q[k] := List.getElem?_eq_getElem (by omega)
                have hyk : y.seen[k]? = some y.seen[k] := List.getElem?_eq_getElem (by omega)
                have HQ := Lib.hid hq
                have HQK := Lib.hid hqk
                have HYK := Lib.hid hyk
                generalize q[k] = aq at *
                generalize y.seen[k] = ay at *
                clear hq hqk hyk hC hcell hRq hcq hcn hc0 hc1 hc2 hql hyl hlq
                have hkn2 : k < n * 32 := hkk
                have hii2 : (i : Int) < (may.length : Int) := by omega
                by_cases heq : aq = ay
                · subst heq
                  have t1 : (aq == aq) = true := by simp
                  go_wp2_with fail
                  go_quiet (fail)
                  go_wp2
                  go_roundg (gk - 1)
                  case measure => have := HMi.out; omega
                  case rel => exact ⟨i + 1, true, rfl, (by first | exact congrArg (Value.int .i64) hwi.out | exact congrArg (Value.int .i64) (by omega)), ⟨by have := HMi.out; omega, (Only.drewN (Only.of_below HZi.out (fun _ => False)) _).below_all, fun h => by cases h⟩⟩
                · have t1 : (aq == ay) = false := by simpa using heq
                  have HNE := Lib.hid heq
                  clear heq
                  go_wp2_with fail
                  go_quiet (fail)
                  go_wp2
                  go_roundg (gk - 1)
                  case measure => have := HMi.out; omega
                  case rel => exact ⟨i + 1, false, rfl, (by first | exact congrArg (Value.int .i64) hwi.out | exact congrArg (Value.int .i64) (by omega)), ⟨by have := HMi.out; omega, (Only.drewN (Only.of_below HZi.out (fun _ => False)) _).below_all, fun _ i' hi' q' hq' => by
                    by_cases e : i' = i
                    · subst e
                      rw [HQ.out] at hq'
                      cases hq'
                      rw [HQK.out, HYK.out]
                      intro h
                      exact HNE.out (Option.some.inj h)
                    · exact HF.out (by first | exact rfl | trivial) i' (by omega) q' hq'⟩⟩
            · cases f with
              | true =>
                go_wp2
                go_roundg (go - 1)
                case measure => have := HM.out; omega
                case rel => exact ⟨k + 1, (by first | exact congrArg (Value.int .i64) hwk.out | exact congrArg (Value.int .i64) (by omega)), ⟨by have := HM.out; omega, HZi.out⟩⟩
              | false =>
                exfalso
                obtain ⟨s', hs', hsk⟩ := KEY.out k hkk
                obtain ⟨i', hi', he'⟩ := List.mem_iff_getElem.1 hs'
                exact HF.out rfl i' (by have := HMi.out; omega) s' (by rw [List.getElem?_eq_getElem hi', he']) hsk
        · have hkn2 : ¬ (k : Int) < (n : Int) * 32 := by omega
          go_wp2
          go_ret
          exact ⟨rfl, ((Only.of_below HB9.out (fun _ => False)).step (Only.of_below HZ.out (fun _ => False)) (fun _ _ h => h)).below_all⟩
end Go.Proofs.Ytgiidddmhnnnjaa.Dk
