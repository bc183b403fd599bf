/- DiskLives, walked. -/
import Derived.Test.YtgiidddmhnnnjaaDisk16
import Derived.Test.YtgiidddmhnnnjaaOpOpens
namespace Go.Proofs.Ytgiidddmhnnnjaa.Dk
open Go.RowKit Go.Proofs.Ytgiidddmhnnnjaa.Mem Go.Proofs.YtgiidddmhnnnjaaW.PrintWords
set_option linter.unusedVariables false
set_option linter.unusedSimpArgs false
theorem barrier_dead {w : World} {base g n : Nat} {ok : Nat → Prop} {x : DV} (h : IsDisk w base ok g x) (hg : Good x n) (hl : x.life = 0) : Calls Try.prog 12 #[.pointer (some ⟨g, 0, none⟩)] w fun e w' => e = .returned (.int .i64 3) ∧ w = w' := by
  have hc : chk x.life 0 n = 3 := by unfold chk; rw [if_pos hl]
  have HC := dk_check h hg 0
  rw [hc] at HC
  have HC := Lib.hid HC
  clear h hl hc
  go_enter Try.func12, Try.ntmps12
  go_wp2_with (first
    | (go_at_call 31; refine HC.out.mono ?_; rintro e w' ⟨rfl, rfl⟩)
    | fail)
  go_ret
  exact ⟨rfl, rfl⟩
theorem write_dead {w : World} {base g n : Nat} {ok : Nat → Prop} {x : DV} (h : IsDisk w base ok g x) (hg : Good x n) (hl : x.life = 0) (s : Int) (A : Option Addr) (c : Nat) : Calls Try.prog 14 #[.pointer (some ⟨g, 0, none⟩), .int .i64 s, .slice A 32 c] w fun e w' => e = .returned (.int .i64 3) ∧ w = w' := by
  have hc : chk x.life s n = 3 := by unfold chk; rw [if_pos hl]
  have := write_check h hg s A c (by rw [hc]; decide)
  rwa [hc] at this
theorem dk_writeI {w : World} {base g n : Nat} {ok : Nat → Prop} {x : DV} (h : IsDisk w base ok g x) (hg : Good x n) (hbase : base ≤ w.heap.size) (hpl : (x.pend.length + 1) * 32 ≤ 140737488355328) (hlife : x.life ≠ 0) (s : Int) (h0 : 0 ≤ s) (h1 : s < n) (B : Nat) (okb : Nat → Prop) (A : Option Addr) (c : Nat) (b : List Int) (hl : b.length = 32) (hv : (Kd.int .u8).R 5 w B okb (.slice A 32 c) b) (hap : ∀ k, ok k → k < B) :
    Calls Try.prog 14 #[.pointer (some ⟨g, 0, none⟩), .int .i64 s, .slice A 32 c] w fun e w' => e = .returned (.int .i64 0) ∧ IsDisk w' base (fun k => ok k ∨ w.heap.size ≤ k) g (x.write s.toNat b) ∧ Only w w' ok := by
  obtain ⟨m, rfl⟩ := Int.eq_ofNat_of_zero_le h0
  rw [Int.toNat_natCast]
  obtain ⟨gb, cap, junk, e1, q1, q2, q3, q4, q5, q6⟩ := R_open hv (by omega)
  injection e1 with e1 _ _
  subst e1
  have hC := (Kd.R_reads' hv).2.2
  rw [hl] at hC
  exact dk_write h hg hg.n2 hbase hpl hlife m (by omega) gb 0 c b hC q6.lt (fun hk => by have := hap _ hk; omega)
/-- What a disk is when i of its life are gone. -/
structure Alive (x : DV) (n m l : Nat) : Prop where
  good : Good x n
  life : x.life = (l : Int)
  plen : x.pend.length + l ≤ m
theorem Alive.barrier {x : DV} {n m l : Nat} (h : Alive x n m (l + 1)) : Alive x.barrier n m l :=
  ⟨h.good.barrier, by show spent x.life = l; rw [h.life]; unfold spent; rw [if_pos (by omega)]; omega, by show 0 + l ≤ m; have := h.plen; omega⟩
theorem Alive.write {x : DV} {n m l s : Nat} {b : List Int} (h : Alive x n m (l + 1)) (hs : s < n) (hb : b.length = 32) (hbb : ∀ y ∈ b, 0 ≤ y ∧ y < 256) : Alive (x.write s b) n m l :=
  ⟨h.good.write hs hb hbb, by show spent x.life = l; rw [h.life]; unfold spent; rw [if_pos (by omega)]; omega, by show (x.pend ++ [_]).length + l ≤ m; have := h.plen; simp; omega⟩
set_option maxHeartbeats 8000000 in
set_option maxRecDepth 100000 in
theorem lives_any (s : Int) (A A3 : Option Addr) (c c3 : Nat) (script : List OpV) (nn : Nat) (bar : List Bool) (w : World) (hs : Hid (Script w A c script)) (hnn : nn < 256) (hk : Hid (Kd.bool.C w A3 bar.length bar)) (hkc : bar.length ≤ c3) (hkl : bar.length ≤ 140737488351232) :
    Calls Try.prog 6 #[.int .i64 s, .slice A script.length c, .int .u8 (nn : Int), .slice A3 bar.length c3] w fun e w' => e = .returned (.bool true) ∧ Below w.heap.size w w' := by
  have hgr := grown_good s script hs.out.ok
  obtain ⟨n, hn⟩ : ∃ n, sectorsOf s = n := ⟨_, rfl⟩
  obtain ⟨x, hx⟩ : ∃ x, grownN (sectorsOf s) script script.length = x := ⟨_, rfl⟩
  have HX := Lib.hid hx
  rw [hn] at hgr
  rw [hn] at hx
  rw [hx] at hgr
  have GR := Lib.hid hgr
  have hn0 : 1 ≤ n ∧ n ≤ 64 := by rw [← hn]; exact sectorsOf_le s
  have hsz := hs.out.size
  clear hgr hx hn
  go_enter Try.func6, Try.ntmps6
  go_wp2_with fail
  refine (grown_script s A c script w hs.out).mono ?_
  rintro e w1 ⟨g, rfl, d1, b1⟩
  rw [HX.out] at d1
  have D1 := Lib.hid d1
  have B1 := Lib.hid b1
  clear d1 b1
  go_wp2_with fail
  refine (awake_any w1).mono ?_
  rintro e w2 ⟨rfl, b2⟩
  have D2 := Lib.hid (D1.out.keep (Only.of_below b2 (fun _ => False)) (fun _ _ h => h))
  have B2 := Lib.hid (((Only.of_below B1.out (fun _ => False)).step (Only.of_below b2 (fun _ => False)) (fun _ _ h => h)).below_all)
  clear b2 D1 B1
  go_wp2_with fail
  refine (dk_live D2.out.bound GR.out.good (nn : Int) (by omega)).mono ?_
  rintro e w3 ⟨rfl, d3, o3⟩
  have A3' : Alive (x.live nn) n (script.length + nn) nn := ⟨⟨GR.out.good.n1, GR.out.good.n2, GR.out.good.kept, GR.out.good.seen, GR.out.good.bk, GR.out.good.bs, GR.out.good.pend, ⟨by show (-1 : Int) ≤ nn; omega, by show (nn : Int) ≤ _; omega⟩⟩, rfl, by show x.pend.length + nn ≤ _; have := GR.out.pend; omega⟩
  have D3 := Lib.hid d3
  have AL := Lib.hid A3'
  have B3 := Lib.hid ((Only.of_below B2.out (fun _ => False)).step o3 (fun q hq h => by have := h.2.1; omega)).below_all
  clear A3' d3 o3 D2 B2
  go_wp2_with fail
  go_loopg [10] bar.length (fun m i wr => ∃ k : Nat, i = .int .i64 k ∧ Aside1 (k + m = bar.length ∧ (∃ y, IsDisk wr w.heap.size (fun _ => True) g y ∧ Alive y n (script.length + nn) (nn - k)) ∧ Below w.heap.size w wr))
  case atStart => exact ⟨0, rfl, ⟨Nat.zero_add _, ⟨_, D3.out.mono (fun _ _ => trivial), AL.out⟩, B3.out⟩⟩
  case round =>
    obtain ⟨k, rfl, hA⟩ := hrel
    have HM := Lib.hid hA.out.1
    obtain ⟨y, hI, hAL⟩ := hA.out.2.1
    have HI := Lib.hid hI
    have HL := Lib.hid hAL
    have HB := Lib.hid hA.out.2.2
    clear hA D3 B3 AL hI hAL
    have hw1 : Hid (wrap64 ((k : Int) + 1) = ((k + 1 : Nat) : Int)) := Lib.hid (by have := HM.out; unfold wrap64; omega)
    by_cases hkk : k < bar.length
    · have hki : (k : Int) < (bar.length : Int) := by omega
      have hk0 : (0 : Int) ≤ (k : Int) := by omega
      obtain ⟨ad, rfl, hkc2⟩ := Kd.at_bool hk.out (k : Int) hk0 (by omega)
      rw [Int.toNat_natCast] at hkc2
      have x0 := (HB.out.cell (World.block_lt_of_cell? _ _ hkc2)).trans hkc2
      have hkg : rdOf false bar (k : Int) = bar.getD k false := by show bar.getD (Int.toNat (k : Int)) false = _; rw [Int.toNat_natCast]
      rw [hkg] at x0
      clear hkc2 hkg
      cases hb : bar.getD k false with
      | true =>
        rw [hb] at x0
        clear hb
        by_cases hlt : k < nn
        · have hlti : (k : Int) < (nn : Int) := by omega
          obtain ⟨l, hl⟩ : ∃ l, nn - k = l + 1 := ⟨nn - k - 1, by omega⟩
          have hal := HL.out
          rw [hl] at hal
          have HAL := Lib.hid hal
          have HL1 := Lib.hid (show nn - (k + 1) = l by omega)
          have BR := Lib.hid (dk_barrier HI.out.bound hal.good hal.good.n2 (by rw [hal.life]; omega))
          clear hal hl
          go_wp2_with (first
            | (go_at_call 12; refine BR.out.mono ?_; rintro e w4 ⟨rfl, d4, o4⟩; have D4 := Lib.hid d4; have B4 := Lib.hid ((Only.of_below HB.out (fun _ => False)).step o4 (fun q hq h => by have := h.2.1; omega)).below_all; clear d4 o4)
            | fail)
          go_roundg (gk - 1)
          case measure => have := HM.out; omega
          case rel => exact ⟨k + 1, (by first | exact congrArg (Value.int .i64) hw1.out | exact congrArg (Value.int .i64) (by omega)), ⟨by have := HM.out; omega, ⟨_, D4.out.mono (fun _ _ => trivial), by rw [HL1.out]; exact HAL.out.barrier⟩, B4.out⟩⟩
        · have hlti : ¬ (k : Int) < (nn : Int) := by omega
          have hal := HL.out
          have HL1 := Lib.hid (show nn - (k + 1) = nn - k by omega)
          have BR := Lib.hid (barrier_dead HI.out hal.good (by rw [hal.life]; omega))
          clear hal
          go_wp2_with (first
            | (go_at_call 12; refine BR.out.mono ?_; rintro e w4 ⟨rfl, rfl⟩)
            | fail)
          go_roundg (gk - 1)
          case measure => have := HM.out; omega
          case rel => exact ⟨k + 1, (by first | exact congrArg (Value.int .i64) hw1.out | exact congrArg (Value.int .i64) (by omega)), ⟨by have := HM.out; omega, ⟨_, HI.out, by rw [HL1.out]; exact HL.out⟩, HB.out⟩⟩
      | false =>
        rw [hb] at x0
        clear hb
        have HBd : Hid (Below wr.heap.size wr wr.drew) := Lib.hid ((Only.refl wr (fun _ => False)).drew).below_all
        have HK : Hid (∀ W, Below wr.heap.size wr W → IsDisk W w.heap.size (fun q => True ∧ w.heap.size ≤ q ∧ q < wr.heap.size) g y) := Lib.hid (fun W hb => HI.out.bound.keep (Only.of_below hb (fun _ => False)) (fun _ _ h => h))
        have hnz : ((n : Int) == 0) = false := by simp; omega
        have hnz2 : (0 : Int) < (n : Int) := by omega
        have HBa : Hid (∀ v : Int, Below wr.heap.size wr (wr.alloc (.cells #[.int .u8 v] 5)).drew) := Lib.hid (fun v => (((Only.refl wr (fun _ => False)).alloc _).drew).below_all)
        have HC1 : Hid (∀ v : Int, (Kd.int .u8).C (wr.alloc (.cells #[.int .u8 v] 5)).drew (some ⟨wr.heap.size, 0, none⟩) 1 [v]) := Lib.hid (fun v => C_of_blk (o := 0) (n := 1) (xs := [v]) (show Blk (wr.alloc (.cells #[.int .u8 v] 5)).drew wr.heap.size 5 (icells .u8 [v]) from Blk.drew (Blk.new _ _ _)) (by simp) (by simp))
        by_cases hlt : k < nn
        · have hlti : (k : Int) < (nn : Int) := by omega
          obtain ⟨l, hl⟩ : ∃ l, nn - k = l + 1 := ⟨nn - k - 1, by omega⟩
          have hal := HL.out
          rw [hl] at hal
          have HAL := Lib.hid hal
          have HL1 := Lib.hid (show nn - (k + 1) = l by omega)
          have hpl : (y.pend.length + 1) * 32 ≤ 140737488355328 := by have := hal.plen; omega
          have HLN := Lib.hid (show y.life ≠ 0 by have := HL.out.life; omega)
          have HMD := Lib.hid (show 0 ≤ (k : Int) % (n : Int) ∧ (k : Int) % (n : Int) < (n : Int) from ⟨Int.emod_nonneg _ (by omega), Int.emod_lt_of_pos _ hnz2⟩)
          clear hal hl
          go_wp2_with fail
          go_region_with (first
            | (go_at_call 17; refine (dk_len (HK.out _ (by first | exact HBd.out | exact HBa.out _)) HL.out.good).mono ?_; rintro e w4 ⟨rfl, rfl⟩)
            | (go_at_call 19; refine (full_any _ 1 _ _ (HC1.out _) (by simp) (by simp)).mono ?_; rintro e w5 ⟨v, rfl, r5, b5⟩; obtain ⟨A5, c5, e5⟩ := Kd.R_slice r5; rw [full_length] at e5; subst e5; have R5 := Lib.hid r5; have B5 := Lib.hid b5; clear r5 b5)
            | (go_at_call 14; refine (dk_writeI (HK.out _ ((Only.of_below (HBa.out _) (fun _ => False)).step (Only.of_below B5.out (fun _ => False)) (fun _ _ h => h)).below_all) HL.out.good (Nat.le_trans HB.out.size (Nat.le_trans (HBa.out _).size B5.out.size)) hpl HLN.out _ HMD.out.1 HMD.out.2 _ (fun _ => True) A5 c5 _ (full_length _) R5.out (fun q hq => Nat.lt_of_lt_of_le hq.2.2 (HBa.out _).size)).mono ?_; rintro e w6 ⟨rfl, d6, o6⟩; have D6 := Lib.hid d6; have O6 := Lib.hid o6; clear d6 o6))
          all_goals
            have B6 := Lib.hid ((((Only.of_below HB.out (fun _ => False)).step (Only.of_below (HBa.out _) (fun _ => False)) (fun _ _ h => h)).step (Only.of_below B5.out (fun _ => False)) (fun _ _ h => h)).step O6.out (fun q hq h => by have := h.2.1; omega)).below_all
            have hkw : IntKind.u8.wrap (k : Int) = k := by unfold IntKind.wrap; simp [IntKind.bits, IntKind.signed]; omega
            have AN := Lib.hid (HAL.out.write (s := ((k : Int) % (n : Int)).toNat) (by have := HMD.out; omega) (full_length [(k : Int)]) (full_bytes [(k : Int)] (by simp; omega)))
            have HKW := Lib.hid hkw
            clear hkw
            clear O6 R5 B5 HK HBa HC1
            go_wp2
            go_roundg (gk - 1)
            case measure => have := HM.out; omega
            case rel => exact ⟨k + 1, (by first | exact congrArg (Value.int .i64) hw1.out | exact congrArg (Value.int .i64) (by omega)), ⟨by have := HM.out; omega, ⟨_, D6.out.mono (fun _ _ => trivial), by rw [HL1.out]; first | exact AN.out | (rw [HKW.out]; exact AN.out)⟩, B6.out⟩⟩
        · have hlti : ¬ (k : Int) < (nn : Int) := by omega
          have hal := HL.out
          have HL1 := Lib.hid (show nn - (k + 1) = nn - k by omega)
          have HL0 := Lib.hid (show y.life = 0 by rw [hal.life]; omega)
          clear hal
          go_wp2_with fail
          go_region_with (first
            | (go_at_call 17; refine (dk_len (HK.out _ (by first | exact HBd.out | exact HBa.out _)) HL.out.good).mono ?_; rintro e w4 ⟨rfl, rfl⟩)
            | (go_at_call 19; refine (full_any _ 1 _ _ (HC1.out _) (by simp) (by simp)).mono ?_; rintro e w5 ⟨v, rfl, r5, b5⟩; obtain ⟨A5, c5, e5⟩ := Kd.R_slice r5; rw [full_length] at e5; subst e5; have R5 := Lib.hid r5; have B5 := Lib.hid b5; clear r5 b5)
            | (go_at_call 14; refine (write_dead (HK.out _ ((Only.of_below (HBa.out _) (fun _ => False)).step (Only.of_below B5.out (fun _ => False)) (fun _ _ h => h)).below_all) HL.out.good HL0.out _ A5 c5).mono ?_; rintro e w6 ⟨rfl, rfl⟩))
          all_goals
            have D6 := Lib.hid (HK.out _ ((Only.of_below (HBa.out _) (fun _ => False)).step (Only.of_below B5.out (fun _ => False)) (fun _ _ h => h)).below_all)
            have B6 := Lib.hid (((Only.of_below HB.out (fun _ => False)).step (Only.of_below (HBa.out _) (fun _ => False)) (fun _ _ h => h)).step (Only.of_below B5.out (fun _ => False)) (fun _ _ h => h)).below_all
            clear R5 B5 HK HBa HC1
            go_wp2
            go_roundg (gk - 1)
            case measure => have := HM.out; omega
            case rel => exact ⟨k + 1, (by first | exact congrArg (Value.int .i64) hw1.out | exact congrArg (Value.int .i64) (by omega)), ⟨by have := HM.out; omega, ⟨_, D6.out.mono (fun _ _ => trivial), by rw [HL1.out]; exact HL.out⟩, B6.out⟩⟩
    · have hki : ¬ (k : Int) < (bar.length : Int) := by omega
      obtain rfl : k = bar.length := by have := HM.out; omega
      have hal := HL.out
      clear hw1 hkk
      have hcc : (nn ≤ bar.length ∧ (nn : Int) ≤ (bar.length : Int) ∧ chk y.life 0 (n : Int) = 3) ∨ (¬ nn ≤ bar.length ∧ ¬ (nn : Int) ≤ (bar.length : Int) ∧ chk y.life 0 (n : Int) = 0) := by
        by_cases h : bar.length < nn
        · refine .inr ⟨by omega, by omega, ?_⟩
          unfold chk
          rw [if_neg (by rw [hal.life]; omega), if_neg (by omega)]
        · refine .inl ⟨by omega, by omega, ?_⟩
          unfold chk
          rw [if_pos (by rw [hal.life]; omega)]
      have hpl : (y.pend.length + 1) * 32 ≤ 140737488355328 := by have := hal.plen; omega
      rcases hcc with ⟨hge, hgeI, hc⟩ | ⟨hge, hgeI, hc⟩
      all_goals
        have RD := dk_read HI.out hal.good hal.good.n2 0
        rw [hc] at RD
        have HRD := Lib.hid RD
        have HC := Lib.hid hc
        clear RD hc hal
        go_wp2_with fail
        refine HRD.out.mono ?_
        rintro e w4 ⟨v4, rfl, -, b4⟩
        have D4 := Lib.hid (HI.out.keep (Only.of_below b4 (fun _ => False)) (fun _ _ h => h))
        have B4 := Lib.hid ((Only.of_below HB.out (fun _ => False)).step (Only.of_below b4 (fun _ => False)) (fun _ _ h => h)).below_all
        clear b4 HI HB HRD
        go_wp2_with fail
        refine (dk_copy D4.out HL.out.good hpl).mono ?_
        rintro e w5 ⟨g5, rfl, d5, b5⟩
        have RC := dk_read d5 HL.out.good HL.out.good.n2 0
        rw [HC.out] at RC
        have HRC := Lib.hid RC
        have D5 := Lib.hid (D4.out.keep (Only.of_below b5 (fun _ => False)) (fun _ _ h => h))
        have B5 := Lib.hid ((Only.of_below B4.out (fun _ => False)).step (Only.of_below b5 (fun _ => False)) (fun _ _ h => h)).below_all
        clear b5 D4 B4 RC d5
        go_wp2_with fail
        refine HRC.out.mono ?_
        rintro e w6 ⟨v6, rfl, -, b6⟩
        have D6 := Lib.hid (D5.out.keep (Only.of_below b6 (fun _ => False)) (fun _ _ h => h))
        have B6 := Lib.hid ((Only.of_below B5.out (fun _ => False)).step (Only.of_below b6 (fun _ => False)) (fun _ _ h => h)).below_all
        clear b6 D5 B5 HRC
        have C0 : Kd.bool.C w6 none 0 [] := ⟨rfl, by omega, fun h => absurd h (by omega)⟩
        have CR := Lib.hid (dk_crash D6.out.bound HL.out.good hpl none 0 [] 0 0 (Int.le_refl _) (by decide) C0 (fun ad he => by cases he) (Nat.le_refl _))
        clear C0
        go_wp2_with fail
        refine CR.out.mono ?_
        rintro e w7 ⟨rfl, d7, o7⟩
        have G7 := Lib.hid (HL.out.good.crash [] 0 0 (Int.le_refl _) (by decide))
        have B7 := Lib.hid ((Only.of_below B6.out (fun _ => False)).step o7 (fun q hq h => by have := h.2.1; omega)).below_all
        have R7 := dk_read d7 G7.out G7.out.n2 0
        rw [show chk (y.crash [] 0 0).life 0 (n : Int) = 0 by unfold chk; rw [if_neg (by show ¬ (-1 : Int) = 0; decide), if_neg (by omega)]] at R7
        have HR7 := Lib.hid R7
        have D7 := Lib.hid d7
        clear d7 o7 R7 D6 B6 CR
        go_wp2_with fail
        refine HR7.out.mono ?_
        rintro e w8 ⟨v8, rfl, -, b8⟩
        have B8 := Lib.hid ((Only.of_below B7.out (fun _ => False)).step (Only.of_below b8 (fun _ => False)) (fun _ _ h => h)).below_all
        have BR := Lib.hid (dk_barrier ((D7.out.bound).keep (Only.of_below b8 (fun _ => False)) (fun _ _ h => h)) G7.out G7.out.n2 (by show (-1 : Int) ≠ 0; decide))
        clear b8 D7 B7 HR7
        go_wp2_with fail
        refine BR.out.mono ?_
        rintro e w9 ⟨rfl, d9, o9⟩
        have B9 := Lib.hid ((Only.of_below B8.out (fun _ => False)).step o9 (fun q hq h => by have := h.2.1; omega)).below_all
        clear d9 o9 B8 BR
        go_wp2
        go_ret
        exact ⟨rfl, B9.out⟩
end Go.Proofs.Ytgiidddmhnnnjaa.Dk
