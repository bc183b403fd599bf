/- DiskApart, walked. -/
import Derived.Test.YtgiidddmhnnnjaaSame
import Derived.Test.YtgiidddmhnnnjaaOpOpens
import Derived.Test.YtgiidddmhnnnjaaApartN
namespace Go.Proofs.Ytgiidddmhnnnjaa.Dk
open Go.RowKit Go.Proofs.Ytgiidddmhnnnjaa.Mem Go.Proofs.YtgiidddmhnnnjaaW.PrintWords Go.Proofs.Ytgiidddmhnnnjaa.Ap
set_option linter.unusedVariables false
set_option linter.unusedSimpArgs false
theorem dk_writeS {w : World} {base g n : Nat} {ok : Nat → Prop} {x : DV} (h : IsDisk w base ok g x) (hg : Good x n) (hbase : base ≤ w.heap.size) (hpl : (x.pend.length + 1) * 32 ≤ 140737488355328) (hlife : x.life ≠ 0) (s : Int) (h0 : 0 ≤ s) (h1 : s < n) (ab ao c : Nat) (b : List Int) (hb : (Kd.int .u8).C w (some ⟨ab, ao, none⟩) 32 b) (hab : ab < w.heap.size) (hne : ¬ ok ab) :
    Calls Try.prog 14 #[.pointer (some ⟨g, 0, none⟩), .int .i64 s, .slice (some ⟨ab, ao, none⟩) 32 c] w fun e w' => e = .returned (.int .i64 0) ∧ IsDisk w' base (fun k => ok k ∨ w.heap.size ≤ k) g (x.write s.toNat b) ∧ Only w w' ok := by
  obtain ⟨m, rfl⟩ := Int.eq_ofNat_of_zero_le h0
  rw [Int.toNat_natCast]
  exact dk_write h hg hg.n2 hbase hpl hlife m (by omega) ab ao c b hb hab hne
theorem sec_write {x : DV} {n : Nat} (hg : Good x n) {s : Int} (h0 : 0 ≤ s) (h1 : s < n) {b : List Int} (hb : b.length = 32) : sec (x.write s.toNat b).seen s = b := by
  have hl := hg.seen
  show ((splice x.seen (s.toNat * 32) b).drop (s.toNat * 32)).take 32 = b
  unfold splice
  rw [List.drop_append_of_le_length (by simp; omega), List.drop_of_length_le (by simp; omega), List.nil_append, List.take_append_of_le_length (by omega), List.take_of_length_le (by omega)]
def cutOwn (own : Nat → Nat) (B : Nat) : Nat → Nat := fun k => if k < B then 1 else own k
theorem R_cut {α : Type} {d : Kd α} {e : Nat} {w : World} {base i : Nat} {own : Nat → Nat} {v : Value} {xs : List α} (h : d.R e w base (fun k => own k = i) v xs) : d.R e w base (fun k => cutOwn own base k = i) v xs :=
  Kd.R_mono (Kd.R_bound h) (fun k hk => by unfold cutOwn; rw [if_neg (by omega)]; exact hk.1)
theorem IsDisk.cut {w : World} {base i g : Nat} {own : Nat → Nat} {x : DV} (h : IsDisk w base (fun k => own k = i) g x) : IsDisk w base (fun k => cutOwn own base k = i) g x :=
  h.bound.mono (fun k hk => by unfold cutOwn; rw [if_neg (by omega)]; exact hk.1)
theorem pieces_cut {kd : IntKind} {e : TypeId} {w : World} {base : Nat} {own : Nat → Nat} {vs : List SL} (h : Pieces kd e w base own vs) : Pieces kd e w base (cutOwn own base) vs := by
  intro k p hp
  obtain ⟨ys, hl, hr⟩ := h k p hp
  exact ⟨ys, hl, R_cut hr⟩
theorem same_full (A B : Option Addr) (c c' : Nat) (b : List Int) (w : World) (ha : (Kd.int .u8).C w A 32 (full b)) (hc : 32 ≤ c) (hb : (Kd.int .u8).C w B (full b).length (full b)) (hc' : 32 ≤ c') :
    Calls Try.prog 20 #[.slice A 32 c, .slice B 32 c'] w fun e w' => e = .returned (.bool true) ∧ Below w.heap.size w w' := by
  have hl := full_length b
  have := same_any A B c c' (full b) (full b) w (by rw [hl]; exact ha) (by rw [hl]; exact hc) hb (by rw [hl]; exact hc') (by rw [hl]; decide)
  rw [hl] at this
  refine this.mono ?_
  rintro e w' ⟨rfl, h⟩
  exact ⟨by simp, h⟩
theorem C_pre {w : World} {g o n : Nat} {t : TypeId} {k : IntKind} {xs : List Int} {junk : List Value} (hb : Blk w g t (icells k xs ++ junk)) (h : o + n ≤ xs.length) (hx : xs.length ≤ 9223372036854775807) : (Kd.int k).C w (some ⟨g, o, none⟩) n ((xs.drop o).take n) := by
  have hl : ((xs.drop o).take n).length = n := by simp; omega
  refine ⟨hl, by omega, fun _ => ⟨_, rfl, fun j p hj => ⟨[.int k p], rfl, rfl, fun i u hu => ?_⟩⟩⟩
  match i, hu with
  | 0, hu =>
    simp at hu
    subst hu
    rw [show (Kd.int k).sz = 1 from rfl, show j * 1 + 0 = j by omega]
    exact hb.at_ o n h j _ (by simp only [icells, List.getElem?_map, hj, Option.map_some])
set_option maxHeartbeats 8000000 in
set_option maxRecDepth 100000 in
theorem apart_in (s0 : Int) (A A3 : Option Addr) (c c3 : Nat) (script : List OpV) (s : Int) (b : List Int) (w : World) (hs : Hid (Script w A c script)) (h0 : 0 ≤ s) (h1 : Hid (s < (sectorsOf s0 : Nat))) (hb : Hid ((Kd.int .u8).C w A3 b.length b)) (hbc : b.length ≤ c3) (hbl : b.length ≤ 140737488351232) (hbb : Hid (∀ y ∈ b, 0 ≤ y ∧ y < 256)) :
    Calls Try.prog 4 #[.int .i64 s0, .slice A script.length c, .int .i64 s, .slice A3 b.length c3] w fun e w' => e = .returned (.bool true) ∧ Below w.heap.size w w' := by
  have hgr := grown_good s0 script hs.out.ok
  obtain ⟨n, hn⟩ : ∃ n, sectorsOf s0 = n := ⟨_, rfl⟩
  obtain ⟨x, hx⟩ : ∃ x, grownN (sectorsOf s0) script script.length = x := ⟨_, rfl⟩
  have HX := Lib.hid hx
  have h1' := h1.out
  rw [hn] at h1'
  rw [hn] at hgr
  rw [hn] at hx
  rw [hx] at hgr
  have GR := Lib.hid hgr
  have hn0 : 1 ≤ n ∧ n ≤ 64 := by rw [← hn]; exact sectorsOf_le s0
  have hsz := hs.out.size
  clear hgr hx hn
  go_enter Try.func4, Try.ntmps4
  go_wp2_with fail
  refine (grown_script s0 A c script w hs.out).mono ?_
  rintro e w1 ⟨g, rfl, d1, b1⟩
  rw [HX.out] at d1
  have D1 := Lib.hid d1
  have B1 := Lib.hid b1
  clear d1 b1
  go_wp2_with fail
  refine (awake_any w1).mono ?_
  rintro e w2 ⟨rfl, b2⟩
  have D2 := Lib.hid (D1.out.keep (Only.of_below b2 (fun _ => False)) (fun _ _ h => h))
  have B2 := Lib.hid (((Only.of_below B1.out (fun _ => False)).step (Only.of_below b2 (fun _ => False)) (fun _ _ h => h)).below_all)
  clear b2 D1 B1
  go_wp2_with fail
  refine (dk_len D2.out GR.out.good).mono ?_
  rintro e w' ⟨rfl, rfl⟩
  have hpl : (x.pend.length + 1) * 32 ≤ 140737488355328 := by have := GR.out.pend; omega
  go_wp2_with fail
  refine (dk_copy D2.out GR.out.good hpl).mono ?_
  rintro e w3 ⟨g3, rfl, d3, b3⟩
  have hb2 : w.heap.size ≤ w2.heap.size := B2.out.size
  have o3 : Only w2 w3 (fun _ => False) := Only.of_below b3 _
  obtain ⟨own, hown⟩ : ∃ own, own = upd (fun _ => 1) w2.heap.size 0 := ⟨_, rfl⟩
  have D3 := Lib.hid (show IsDisk w3 w.heap.size (fun k => own k = 1) g x from by rw [hown]; exact IsDisk.own_old (D2.out.mono (fun _ _ => rfl)) o3 (fun _ _ h => h) 0)
  have X3 := Lib.hid (show IsDisk w3 w.heap.size (fun k => own k = 0) g3 x from by rw [hown]; exact IsDisk.own_new d3 hb2 _ _)
  have B3 := Lib.hid (((Only.of_below B2.out (fun _ => False)).step o3 (fun _ _ h => h)).below_all)
  clear b3 d3 D2 B2 o3 hown hb2
  go_wp2_with fail
  refine (all_any X3 GR.out.good (by rw [GR.out.life]; decide)).mono ?_
  rintro e w4 ⟨v4, rfl, r4, b4⟩
  have hb3 : w.heap.size ≤ w3.heap.size := B3.out.size
  have o4 : Only w3 w4 (fun _ => False) := Only.of_below b4 _
  obtain ⟨own1, hown⟩ : ∃ own1, own1 = upd own w3.heap.size 0 := ⟨_, rfl⟩
  have D4 := Lib.hid (show IsDisk w4 w.heap.size (fun k => own1 k = 1) g x from by rw [hown]; exact IsDisk.own_old D3.out o4 (fun _ _ h => h) 0)
  have X4 := Lib.hid (show IsDisk w4 w.heap.size (fun k => own1 k = 0) g3 x from by rw [hown]; exact IsDisk.own_old X3.out o4 (fun _ _ h => h) 0)
  have R4 := Lib.hid (show (Kd.int .u8).R 5 w4 w.heap.size (fun k => own1 k = 0) v4 x.seen from by rw [hown]; exact R_own_new r4 hb3 _ _)
  have B4 := Lib.hid (((Only.of_below B3.out (fun _ => False)).step o4 (fun _ _ h => h)).below_all)
  obtain ⟨A4, C4, e4⟩ := Kd.R_slice R4.out
  subst e4
  clear b4 r4 D3 X3 B3 o4 hown hb3
  have hC4 : (Kd.int .u8).C w4 A3 b.length b := Kd.C_below hb.out B4.out
  go_wp2_with fail
  refine (full_any A3 c3 b _ hC4 hbc (by omega)).mono ?_
  rintro e w5 ⟨v5, rfl, r5, b5⟩
  have hb4 : w.heap.size ≤ w4.heap.size := B4.out.size
  have o5 : Only w4 w5 (fun _ => False) := Only.of_below b5 _
  obtain ⟨own2, hown⟩ : ∃ own2, own2 = upd own1 w4.heap.size 5 := ⟨_, rfl⟩
  have D5 := Lib.hid (show IsDisk w5 w.heap.size (fun k => own2 k = 1) g x from by rw [hown]; exact IsDisk.own_old D4.out o5 (fun _ _ h => h) 5)
  have X5 := Lib.hid (show IsDisk w5 w.heap.size (fun k => own2 k = 0) g3 x from by rw [hown]; exact IsDisk.own_old X4.out o5 (fun _ _ h => h) 5)
  have R5 := Lib.hid (show (Kd.int .u8).R 5 w5 w.heap.size (fun k => own2 k = 0) (.slice A4 x.seen.length C4) x.seen from by rw [hown]; exact R_own_old R4.out o5 (fun _ _ h => h) 5)
  have F5 := Lib.hid (show (Kd.int .u8).R 5 w5 w.heap.size (fun k => own2 k = 5) v5 (full b) from by rw [hown]; exact R_own_new r5 hb4 _ _)
  have B5 := Lib.hid (((Only.of_below B4.out (fun _ => False)).step o5 (fun _ _ h => h)).below_all)
  obtain ⟨A5, C5, e5⟩ := Kd.R_slice F5.out
  rw [full_length] at e5
  subst e5
  clear b5 r5 D4 X4 R4 B4 o5 hown hb4 hC4
  have hbl5 : w.heap.size ≤ w5.heap.size := B5.out.size
  have HBa : Hid (Below w5.heap.size w5 (w5.alloc (.cells #[.int .u8 71, .int .u8 72] 5))) := Lib.hid (((Only.refl w5 (fun _ => False))).alloc _).below_all
  have HC5 : Hid ((Kd.int .u8).C (w5.alloc (.cells #[.int .u8 71, .int .u8 72] 5)) (some ⟨w5.heap.size, 0, none⟩) 2 [71, 72]) := Lib.hid (C_of_blk (o := 0) (n := 2) (xs := [71, 72]) (Blk.new _ _ _) (by simp) (by simp))
  have HF5 : Hid ((Kd.int .u8).R 5 (w5.alloc (.cells #[.int .u8 71, .int .u8 72] 5)) w.heap.size (fun k => own2 k = 5 ∨ w5.heap.size ≤ k) (.slice A5 32 C5) (full b)) := Lib.hid (Kd.R_mono (Kd.R_alloc F5.out _) (fun _ h => .inl h))
  have HBb : Hid (Below w.heap.size w5 (w5.alloc (.cells #[.int .u8 71, .int .u8 72] 5))) := Lib.hid ((Only.of_below HBa.out (fun _ => False)).below hbl5 (fun _ _ h => h))
  have hl34 : ((full b).length + 2) * 1 ≤ 140737488355328 := by rw [full_length]; decide
  go_wp2_with (first
    | ((with_reducible refine gate_builtin (b := .append) (xs := #[.tmp 50, .tmp 51]) rfl ?_); at_builtin; refine Kd.R_append_rows (Kd.int .u8) (w0 := w5) w.heap.size rfl (.tmp 50) (.tmp 51) 29 5 (.int .u8 0) 1 rfl Try.underlying29 info5 rfl (by decide) (by omega) (.slice A5 32 C5) (full b) [71, 72] _ _ _ (fun k => own2 k = 5 ∨ w5.heap.size ≤ k) (fun _ => False) rfl rfl HF5.out HC5.out (fun _ _ h => h) (fun _ h => h.elim) (fun k hk => .inr (by simp at hk; omega)) HBb.out (Nat.le_trans hbl5 HBa.out.size) hl34 ?_; intro v7 w7 hR7 hb7 hg7 hat7; obtain ⟨A7, c7, ev7⟩ := Kd.R_slice hR7; rw [List.length_append, full_length] at ev7; subst ev7; have HR7 := Lib.hid hR7; have HG7 := Lib.hid hg7; have HB7 := Lib.hid hb7; clear hR7 hb7 hg7 hat7)
    | fail)
  have o7 : Only w5 w7 (fun q => own2 q = 5) := ((Only.refl w5 (fun q => own2 q = 5)).alloc (.cells #[.int .u8 71, .int .u8 72] 5)).step (Only.of_grown HG7.out) (fun q _ hq => F5.out.1 q hq.symm)
  obtain ⟨own3, hown⟩ : ∃ own3, own3 = upd own2 w5.heap.size 5 := ⟨_, rfl⟩
  have D7 := Lib.hid (show IsDisk w7 w.heap.size (fun k => own3 k = 1) g x from by rw [hown]; exact IsDisk.own_old D5.out o7 (fun q hq h => by rw [hq] at h; cases h) 5)
  have X7 := Lib.hid (show IsDisk w7 w.heap.size (fun k => own3 k = 0) g3 x from by rw [hown]; exact IsDisk.own_old X5.out o7 (fun q hq h => by rw [hq] at h; cases h) 5)
  have R7 := Lib.hid (show (Kd.int .u8).R 5 w7 w.heap.size (fun k => own3 k = 0) (.slice A4 x.seen.length C4) x.seen from by rw [hown]; exact R_own_old R5.out o7 (fun q hq h => by rw [hq] at h; cases h) 5)
  have F7 := Lib.hid (show (Kd.int .u8).R 5 w7 w.heap.size (fun k => own3 k = 5) (.slice A7 34 c7) (full b ++ [71, 72]) from by rw [hown]; exact R_own_mod HR7.out)
  have B7 := Lib.hid (B5.out.trans HB7.out)
  clear D5 X5 R5 F5 o7 hown HR7 HG7 HB7 HBa HBb HC5 HF5 B5 hl34 hbl5
  obtain ⟨gf, cf, jf, ef, gf1, gf2, gf3, gf4, gf5, gf6⟩ := R_open F7.out (by simp)
  injection ef with ef1 ef2 ef3
  subst ef1
  subst ef3
  have hlf : (full b ++ [71, 72]).length = 34 := by rw [List.length_append, full_length]; rfl
  have HGF := Lib.hid gf2
  have GF1 := Lib.hid gf1
  have BF := Lib.hid gf6
  clear gf1 gf2 gf3 gf4 gf5 gf6 ef2
  have CS : Hid (∀ W, Blk W gf 5 (icells .u8 (full b ++ [71, 72]) ++ jf) → W.cell? ⟨gf, 32, none⟩ = some (.int .u8 71) ∧ W.cell? ⟨gf, 33, none⟩ = some (.int .u8 72)) := Lib.hid (fun W h => by
    have h5 := full_length b
    refine ⟨h.cell_at 32 _ ?_, h.cell_at 33 _ ?_⟩
    · rw [icells_append, List.append_assoc, List.getElem?_append_right (by rw [icells_length, h5]; decide), icells_length, h5]; rfl
    · rw [icells_append, List.append_assoc, List.getElem?_append_right (by rw [icells_length, h5]; decide), icells_length, h5]; rfl)
  have CF : Hid (∀ W, Blk W gf 5 (icells .u8 (full b ++ [71, 72]) ++ jf) → (Kd.int .u8).C W (some ⟨gf, 0, none⟩) 32 (full b)) := Lib.hid (fun W h => by
    have := C_pre (o := 0) (n := 32) h (by rw [hlf]; decide) (by rw [hlf]; decide)
    rwa [List.drop_zero, List.take_append_of_le_length (by rw [full_length]; decide), List.take_of_length_le (by rw [full_length]; decide)] at this)
  have BFd : Hid (Blk w7.drew gf 5 (icells .u8 (full b ++ [71, 72]) ++ jf)) := Lib.hid BF.out.drew
  have Dd : Hid (IsDisk w7.drew w.heap.size (fun k => own3 k = 1) g x) := Lib.hid (D7.out.keep ((Only.refl w7 (fun _ => False)).drew) (fun _ _ h => h))
  have hbw7 : w.heap.size ≤ w7.drew.heap.size := B7.out.size
  have hlife : x.life ≠ 0 := by rw [GR.out.life]; decide
  have HLF := Lib.hid hlife
  have h34 : (34 : Nat) ≤ c7 := (Kd.R_reads' F7.out).2.1
  have h32c : 32 ≤ c7 := by omega
  have h32i : (32 : Int) ≤ (c7 : Int) := by omega
  have OWF : Hid (¬ own3 gf = 1) := Lib.hid (by rw [HGF.out]; decide)
  clear hlife
  go_wp2_with fail
  go_region_held3 (fun w' => w'.cell? ⟨gf, 32, none⟩ = some (.int .u8 71) ∧ w'.cell? ⟨gf, 33, none⟩ = some (.int .u8 72)) (exact CS.out _ (by first | exact BFd.out | exact BF8.out | exact BF9.out | exact BF10.out)) (first
    | (go_at_call 14; refine (dk_writeS Dd.out.bound GR.out.good hbw7 hpl HLF.out s h0 h1' gf 0 _ (full b) (CF.out _ BFd.out) BFd.out.lt (fun h => OWF.out h.1)).mono ?_; rintro e w8 ⟨rfl, d8, o8⟩; have D8 := Lib.hid d8; have O8 := Lib.hid o8; have BF8 := Lib.hid (BFd.out.keep o8 (fun h => OWF.out h.1)); have B8 := Lib.hid ((Only.of_below (Only.drew (Only.of_below B7.out (fun _ => False))).below_all (fun _ => False)).step o8 (fun q hq h => by have := h.2.1; omega)).below_all; clear d8 o8)
    | (go_at_call 19; refine (full_any A3 c3 b _ (Kd.C_below hb.out B8.out) hbc (by omega)).mono ?_; rintro e w9 ⟨v9, rfl, r9, b9⟩; obtain ⟨A9, c9, e9⟩ := Kd.R_slice r9; rw [full_length] at e9; subst e9; have R9 := Lib.hid r9; have B9 := Lib.hid b9; have BF9 := Lib.hid (BF8.out.below b9 BF8.out.lt); clear r9 b9)
    | (go_at_call 20; refine (same_full (some ⟨gf, 0, none⟩) A9 _ c9 b _ (CF.out _ BF9.out) h32c (Kd.R_reads' R9.out).2.2 (Kd.R_reads' R9.out).2.1).mono ?_; rintro e w10 ⟨rfl, b10⟩; have B10 := Lib.hid b10; have BF10 := Lib.hid (BF9.out.below b10 BF9.out.lt); clear b10))
  have hsz8 : w7.drew.heap.size ≤ w8.heap.size := O8.out.size
  obtain ⟨own4, hown⟩ : ∃ own4, own4 = upd own3 w7.drew.heap.size 1 := ⟨_, rfl⟩
  have o10 : Only w8 w10 (fun _ => False) := (Only.of_below B9.out (fun _ => False)).step (Only.of_below B10.out (fun _ => False)) (fun _ _ h => h)
  have od : Only w7 w7.drew (fun _ => False) := (Only.refl w7 (fun _ => False)).drew
  have D10 := Lib.hid (IsDisk.keep (show IsDisk w8 w.heap.size (fun k => own4 k = 1) g (x.write s.toNat (full b)) from by rw [hown]; exact IsDisk.own_mod (D8.out.mono (fun q hq => hq.imp (fun h => h.1) id))) o10 (fun _ _ h => h))
  have X10 := Lib.hid (IsDisk.keep (show IsDisk w8 w.heap.size (fun k => own4 k = 0) g3 x from by rw [hown]; exact IsDisk.own_old (X7.out.keep od (fun _ _ h => h)) O8.out (fun q hq h => by rw [hq] at h; exact absurd h.1 (by decide)) 1) o10 (fun _ _ h => h))
  have R10 := Lib.hid (Kd.R_step (show (Kd.int .u8).R 5 w8 w.heap.size (fun k => own4 k = 0) (.slice A4 x.seen.length C4) x.seen from by rw [hown]; exact R_own_old (Kd.R_step R7.out (fun q hq hlt => od.block q hlt (fun h => h))) O8.out (fun q hq h => by rw [hq] at h; exact absurd h.1 (by decide)) 1) (fun q hq hlt => o10.block q hlt (fun h => h)))
  have OG := Lib.hid (show own4 gf = 5 from by rw [hown]; unfold upd; rw [if_pos BFd.out.lt]; exact HGF.out)
  have Bt := Lib.hid (((Only.of_below B8.out (fun _ => False)).step o10 (fun _ _ h => h)).below_all)
  have GX := Lib.hid (GR.out.good.write (m := s.toNat) (by omega) (full_length b) (full_bytes b hbb.out))
  have SX := Lib.hid (sec_write GR.out.good h0 h1' (full_length b))
  have LX := Lib.hid (show (x.write s.toNat (full b)).life ≠ 0 by show spent x.life ≠ 0; rw [GR.out.life]; decide)
  obtain ⟨y, hy⟩ : ∃ y, x.write s.toNat (full b) = y := ⟨_, rfl⟩
  rw [hy] at D10 GX SX LX
  have hlen10 : 34 ≤ (icells .u8 (full b ++ [71, 72]) ++ jf).length := by rw [List.length_append, icells_length, hlf]; omega
  have BF11 := BF10
  clear hy hown o10 od D8 O8 D7 X7 R7 F7 Dd BF BFd BF8 BF9 BF10 B7 B8 B9 B10 R9 CS CF HGF OWF hsz8 hbw7 hlf h32c
  go_wp2_with fail
  go_loopg [13] 32 (fun m iv wz => ∃ i : Nat, iv = .int .i64 i ∧ Aside1 (i + m = 32 ∧ (∃ cs : List Value, Blk wz gf 5 cs ∧ 34 ≤ cs.length) ∧ Only w10 wz (fun q => q = gf)))
  case atStart => exact ⟨0, rfl, ⟨rfl, ⟨_, BF11.out, hlen10⟩, Only.refl _ _⟩⟩
  case round =>
    obtain ⟨i, rfl, hA⟩ := hrel
    have HM := Lib.hid hA.out.1
    have HBF := Lib.hid hA.out.2.1
    have HO := Lib.hid hA.out.2.2
    clear hA BF11
    have hwi : Hid (wrap64 ((i : Int) + 1) = ((i + 1 : Nat) : Int)) := Lib.hid (by have := HM.out; unfold wrap64; omega)
    by_cases hi : i < 32
    · have hii : (i : Int) < 32 := by omega
      have hi0 : (0 : Int) ≤ (i : Int) := by omega
      have hi34 : i < 34 := by omega
      have hii34 : (i : Int) < 34 := by omega
      obtain ⟨cs, hcs, hlc⟩ := HBF.out
      have hcell := hcs.cell_at i cs[i] (List.getElem?_eq_getElem (by omega))
      have hfr := hcs.frozen i
      have HB2 := Lib.hid (hcs.set_ i (.int .u8 99))
      clear hcs
      go_wp2_with fail
      go_roundg (gk - 1)
      case measure => have := HM.out; omega
      case rel => exact ⟨i + 1, (by first | exact congrArg (Value.int .i64) hwi.out | exact congrArg (Value.int .i64) (by omega)), ⟨by have := HM.out; omega, ⟨_, HB2.out, by rw [List.length_set]; exact hlc⟩, HO.out.setCell (p := ⟨gf, i, none⟩) (fun _ => rfl) _⟩⟩
    · have hii : ¬ (i : Int) < 32 := by omega
      have hg4 : ∀ q j, own4 q = j → j ≠ 5 → ¬ q = gf := fun q j hq hj e => hj (by subst e; rw [← hq]; exact OG.out)
      have D11 := Lib.hid (D10.out.keep HO.out (fun q hq => hg4 q 1 hq (by decide)))
      have X11 := Lib.hid (X10.out.keep HO.out (fun q hq => hg4 q 0 hq (by decide)))
      have R11 := Lib.hid (Kd.R_step R10.out (fun q hq hlt => HO.out.block q hlt (hg4 q 0 hq (by decide))))
      have B11 := Lib.hid ((Only.of_below Bt.out (fun _ => False)).step HO.out (fun q hq h => by have h : q = gf := h; have := GF1.out; omega)).below_all
      clear hg4 D10 X10 R10 Bt HO HBF OG
      go_wp2_with fail
      have hck : chk y.life s (n : Int) = 0 := by unfold chk; rw [if_neg LX.out, if_neg (by omega)]
      have hbb11 : w.heap.size ≤ wr.heap.size := B11.out.size
      have RD := dk_read D11.out GX.out GX.out.n2 s
      rw [hck, if_pos rfl, SX.out] at RD
      refine RD.mono ?_
      rintro e w12 ⟨v12, rfl, r12, b12⟩
      obtain ⟨A12, C12, e12⟩ := Kd.R_slice r12
      rw [full_length] at e12
      subst e12
      have o12 : Only wr w12 (fun _ => False) := Only.of_below b12 _
      obtain ⟨own5, hown⟩ : ∃ own5, own5 = upd own4 wr.heap.size 2 := ⟨_, rfl⟩
      have D12 := Lib.hid (show IsDisk w12 w.heap.size (fun k => own5 k = 1) g y from by rw [hown]; exact IsDisk.own_old D11.out o12 (fun _ _ h => h) 2)
      have X12 := Lib.hid (show IsDisk w12 w.heap.size (fun k => own5 k = 0) g3 x from by rw [hown]; exact IsDisk.own_old X11.out o12 (fun _ _ h => h) 2)
      have R12 := Lib.hid (show (Kd.int .u8).R 5 w12 w.heap.size (fun k => own5 k = 0) (.slice A4 x.seen.length C4) x.seen from by rw [hown]; exact R_own_old R11.out o12 (fun _ _ h => h) 2)
      have P12 := Lib.hid (show (Kd.int .u8).R 5 w12 w.heap.size (fun k => own5 k = 2) (.slice A12 32 C12) (full b) from by rw [hown]; exact R_own_new r12 hbb11 _ _)
      have B12 := Lib.hid (((Only.of_below B11.out (fun _ => False)).step o12 (fun _ _ h => h)).below_all)
      clear b12 r12 D11 X11 R11 B11 o12 hown RD hbb11
      go_wp2_with fail
      have RD2 := dk_read D12.out GX.out GX.out.n2 s
      rw [hck, if_pos rfl, SX.out] at RD2
      have hbb12 : w.heap.size ≤ w12.heap.size := B12.out.size
      refine RD2.mono ?_
      rintro e w13 ⟨v13, rfl, r13, b13⟩
      obtain ⟨A13, C13, e13⟩ := Kd.R_slice r13
      rw [full_length] at e13
      subst e13
      have o13 : Only w12 w13 (fun _ => False) := Only.of_below b13 _
      obtain ⟨own6, hown⟩ : ∃ own6, own6 = upd own5 w12.heap.size 3 := ⟨_, rfl⟩
      have D13 := Lib.hid (show IsDisk w13 w.heap.size (fun k => own6 k = 1) g y from by rw [hown]; exact IsDisk.own_old D12.out o13 (fun _ _ h => h) 3)
      have X13 := Lib.hid (show IsDisk w13 w.heap.size (fun k => own6 k = 0) g3 x from by rw [hown]; exact IsDisk.own_old X12.out o13 (fun _ _ h => h) 3)
      have R13 := Lib.hid (show (Kd.int .u8).R 5 w13 w.heap.size (fun k => own6 k = 0) (.slice A4 x.seen.length C4) x.seen from by rw [hown]; exact R_own_old R12.out o13 (fun _ _ h => h) 3)
      have P13 := Lib.hid (show (Kd.int .u8).R 5 w13 w.heap.size (fun k => own6 k = 2) (.slice A12 32 C12) (full b) from by rw [hown]; exact R_own_old P12.out o13 (fun _ _ h => h) 3)
      have Q13 := Lib.hid (show (Kd.int .u8).R 5 w13 w.heap.size (fun k => own6 k = 3) (.slice A13 32 C13) (full b) from by rw [hown]; exact R_own_new r13 hbb12 _ _)
      have B13 := Lib.hid (((Only.of_below B12.out (fun _ => False)).step o13 (fun _ _ h => h)).below_all)
      have HCK := Lib.hid hck
      clear b13 r13 D12 X12 R12 P12 B12 o13 hown RD2 hbb12 hck
      go_wp2_with fail
      refine (full_any A3 c3 b _ (Kd.C_below hb.out B13.out) hbc (by omega)).mono ?_
      rintro e w14 ⟨v14, rfl, r14, b14⟩
      have o14 : Only w13 w14 (fun _ => False) := Only.of_below b14 _
      have E14 := Lib.hid (same_rows (Kd.R_below P13.out b14) r14 (by rw [full_length]; decide) rfl)
      have D14 := Lib.hid (D13.out.keep o14 (fun _ _ h => h))
      have X14 := Lib.hid (X13.out.keep o14 (fun _ _ h => h))
      have R14 := Lib.hid (Kd.R_below R13.out b14)
      have P14 := Lib.hid (Kd.R_below P13.out b14)
      have Q14 := Lib.hid (Kd.R_below Q13.out b14)
      have B14 := Lib.hid (((Only.of_below B13.out (fun _ => False)).step o14 (fun _ _ h => h)).below_all)
      clear b14 r14 o14 D13 X13 R13 P13 Q13 B13
      go_wp2_with fail
      refine E14.out.mono ?_
      rintro e w15 ⟨rfl, b15⟩
      have o15 : Only w14 w15 (fun _ => False) := Only.of_below b15 _
      have D15 := Lib.hid (D14.out.keep o15 (fun _ _ h => h))
      have X15 := Lib.hid (X14.out.keep o15 (fun _ _ h => h))
      have R15 := Lib.hid (Kd.R_below R14.out b15)
      have P15 := Lib.hid (Kd.R_below P14.out b15)
      have Q15 := Lib.hid (Kd.R_below Q14.out b15)
      have B15 := Lib.hid (((Only.of_below B14.out (fun _ => False)).step o15 (fun _ _ h => h)).below_all)
      clear b15 o15 D14 X14 R14 P14 Q14 B14 E14
      go_wp2_with fail
      refine (all_any X15 GR.out.good HLF.out).mono ?_
      rintro e w16 ⟨v16, rfl, r16, b16⟩
      have o16 : Only w15 w16 (fun _ => False) := Only.of_below b16 _
      have E16 := Lib.hid (same_rows r16 (Kd.R_below R15.out b16) (by rw [GR.out.good.seen]; omega) rfl)
      have D16 := Lib.hid (D15.out.keep o16 (fun _ _ h => h))
      have P16 := Lib.hid (Kd.R_below P15.out b16)
      have Q16 := Lib.hid (Kd.R_below Q15.out b16)
      have B16 := Lib.hid (((Only.of_below B15.out (fun _ => False)).step o16 (fun _ _ h => h)).below_all)
      clear b16 r16 o16 D15 X15 R15 P15 Q15 B15
      go_wp2_with fail
      refine E16.out.mono ?_
      rintro e w17 ⟨rfl, b17⟩
      have o17 : Only w16 w17 (fun _ => False) := Only.of_below b17 _
      have D17 := Lib.hid (D16.out.keep o17 (fun _ _ h => h))
      have P17 := Lib.hid (Kd.R_below P16.out b17)
      have Q17 := Lib.hid (Kd.R_below Q16.out b17)
      have B17 := Lib.hid (((Only.of_below B16.out (fun _ => False)).step o17 (fun _ _ h => h)).below_all)
      clear b17 o17 D16 P16 Q16 B16 E16
      go_wp2_with fail
      have hbb17 : w.heap.size ≤ w17.heap.size := B17.out.size
      have oW : Only w17 ((w17.alloc (.cells #[.slice A12 32 C12, .slice A13 32 C13] 29)).alloc (.cells #[.slice none 0 0, .slice none 0 0, .slice (some ⟨w17.heap.size, 0, none⟩) 2 2, .slice none 0 0] 48)) (fun _ => False) := ((Only.refl w17 (fun _ => False)).alloc _).alloc _
      obtain ⟨own7, hown⟩ : ∃ own7, own7 = upd own6 w17.heap.size 0 := ⟨_, rfl⟩
      have D18 := Lib.hid (show IsDisk _ w.heap.size (fun k => own7 k = 1) g y from by rw [hown]; exact IsDisk.own_old D17.out oW (fun _ _ h => h) 0)
      have HB18 := Lib.hid (show Blk ((w17.alloc (.cells #[.slice A12 32 C12, .slice A13 32 C13] 29)).alloc (.cells #[.slice none 0 0, .slice none 0 0, .slice (some ⟨w17.heap.size, 0, none⟩) 2 2, .slice none 0 0] 48)) (w17.heap.size + 1) 48 [.slice none 0 0, .slice none 0 0, .slice (some ⟨w17.heap.size, 0, none⟩) 2 2, .slice none 0 0] from blk_new_at (cs := [_, _, _, _]) (by simp))
      have HO18 := Lib.hid (show cutOwn own7 w.heap.size (w17.heap.size + 1) < 2 by rw [hown]; unfold cutOwn upd; rw [if_neg (by omega), if_neg (by omega)]; decide)
      have hsp : Blk ((w17.alloc (.cells #[.slice A12 32 C12, .slice A13 32 C13] 29)).alloc (.cells #[.slice none 0 0, .slice none 0 0, .slice (some ⟨w17.heap.size, 0, none⟩) 2 2, .slice none 0 0] 48)) w17.heap.size 29 [.slice A12 32 C12, .slice A13 32 C13] := (blk_new_at (cs := [_, _]) rfl).alloc _
      have HS18 := Lib.hid (show slc.R 29 _ w.heap.size (fun q => own7 q = 0) (.slice (some ⟨w17.heap.size, 0, none⟩) ([((A12, 32, C12) : SL), (A13, 32, C13)]).length 2) [(A12, 32, C12), (A13, 32, C13)] from
        Kd.R_of_own ⟨rfl, .inr ⟨w17.heap.size, 2, #[.slice A12 32 C12, .slice A13 32 C13], rfl, hbb17, hsp, Nat.le_refl _, by unfold maxLen; omega, rfl, rfl⟩⟩ (fun k hk => by
          have hk : w17.heap.size = k := by simpa [Value.ownBlock] using hk
          subst hk
          rw [hown]; unfold upd; rw [if_neg (Nat.lt_irrefl _)]))
      have HP18 := Lib.hid (show Pieces .u8 5 _ w.heap.size own7 [(A12, 32, C12), (A13, 32, C13)] from fun k p hp => by
        match k, hp with
        | 0, hp =>
          cases hp
          exact ⟨_, full_length b, by rw [hown]; exact R_own_old P17.out oW (fun _ _ h => h) 0⟩
        | 1, hp =>
          cases hp
          exact ⟨_, full_length b, by rw [hown]; exact R_own_old Q17.out oW (fun _ _ h => h) 0⟩)
      have B18 := Lib.hid ((Only.of_below B17.out (fun _ => False)).step oW (fun _ _ h => h)).below_all
      clear D17 P17 Q17 hown hsp oW
      have hbb18 : w.heap.size ≤ ((w17.alloc (.cells #[.slice A12 32 C12, .slice A13 32 C13] 29)).alloc (.cells #[.slice none 0 0, .slice none 0 0, .slice (some ⟨w17.heap.size, 0, none⟩) 2 2, .slice none 0 0] 48)).heap.size := B18.out.size
      refine (book_bytes (w17.heap.size + 1) (some ⟨w17.heap.size, 0, none⟩) 2 w.heap.size (cutOwn own7 w.heap.size) [(A12, 32, C12), (A13, 32, C13)] _ HB18 HO18 (Lib.hid (R_cut HS18.out)) (Lib.hid (pieces_cut HP18.out)) hbb18 (by show 2 * 24 ≤ 140737488355328; decide) (Lib.hid (fun p hp => by rcases List.mem_cons.1 hp with rfl | hp; exact (by decide : (32 : Nat) + 9 ≤ 140737488355328); rw [List.mem_singleton.1 hp]; exact (by decide : (32 : Nat) + 9 ≤ 140737488355328)))).mono ?_
      rintro e w19 ⟨rfl, o19⟩
      have D19 := Lib.hid (D18.out.cut.keep o19 (fun q hq h => by rw [hq] at h; exact absurd h (by decide)))
      have B19 := Lib.hid ((Only.of_below B18.out (fun _ => False)).step o19 (fun q hq h => by have h : 2 ≤ cutOwn own7 w.heap.size q := h; unfold cutOwn at h; rw [if_pos hq] at h; omega)).below_all
      clear o19 D18 HB18 HO18 HS18 HP18 B18 hbb18 hbb17
      have RD := dk_read D19.out GX.out GX.out.n2 s
      rw [HCK.out, if_pos rfl, SX.out] at RD
      have HRD := Lib.hid RD
      clear RD
      go_wp2_with fail
      refine HRD.out.mono ?_
      rintro e w20 ⟨v20, rfl, r20, b20⟩
      have R20 := Lib.hid r20
      have B20 := Lib.hid (((Only.of_below B19.out (fun _ => False)).step (Only.of_below b20 (fun _ => False)) (fun _ _ h => h)).below_all)
      clear r20 b20 D19 B19 HRD
      go_wp2_with fail
      refine (full_any A3 c3 b _ (Kd.C_below hb.out B20.out) hbc (by omega)).mono ?_
      rintro e w21 ⟨v21, rfl, r21, b21⟩
      have E21 := Lib.hid (same_rows (Kd.R_below R20.out b21) r21 (by rw [full_length]; decide) rfl)
      have B21 := Lib.hid (((Only.of_below B20.out (fun _ => False)).step (Only.of_below b21 (fun _ => False)) (fun _ _ h => h)).below_all)
      clear r21 b21 R20 B20
      go_wp2_with fail
      refine E21.out.mono ?_
      rintro e w22 ⟨rfl, b22⟩
      have B22 := Lib.hid (((Only.of_below B21.out (fun _ => False)).step (Only.of_below b22 (fun _ => False)) (fun _ _ h => h)).below_all)
      clear b22 B21 E21
      go_wp2
      go_ret
      exact ⟨rfl, B22.out⟩
end Go.Proofs.Ytgiidddmhnnnjaa.Dk
