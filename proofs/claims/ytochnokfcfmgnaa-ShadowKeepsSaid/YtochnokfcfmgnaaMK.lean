/- Texts merged: a section each. -/
import Derived.Test.YtochnokfcfmgnaaMF
import Derived.Test.YtochnokfcfmgnaaMJ
import Derived.LoopNIn
section
/- Seat F: a book of two rows that lie apart. -/
namespace Go.Proofs.Ytochnokfcfmgnaa.St
open Go Go.RowKit Go.Proofs.Ytochnokfcfmgnaa.Mem Go.Proofs.YtochnokfcfmgnaaW.PrintWords Go.Proofs.Ytochnokfcfmgnaa.Dk Go.Maps Go.ChangeMaps Go.Proofs.Ytochnokfcfmgnaa.Sh Go.Proofs.Ytochnokfcfmgnaa.Sp
set_option linter.unusedVariables false
set_option linter.unusedSimpArgs false
set_option maxRecDepth 100000
set_option maxHeartbeats 4000000
def own23 (a b c : Nat) : Nat → Nat := fun q => if a ≤ q ∧ q < b then 2 else if b ≤ q ∧ q < c then 3 else 0
theorem book_two {w6 w7 w8 w9 : World} {A7 A8 : Option Addr} {c7 c8 L : Nat} {data : List Int} (hL : data.length = L) (hl : L ≤ 116) (r7 : (Kd.int .u8).R 5 w7 w6.heap.size (fun _ => True) (.slice A7 L c7) data) (r8 : (Kd.int .u8).R 5 w8 w7.heap.size (fun _ => True) (.slice A8 L c8) data)
    (b67 : Below w6.heap.size w6 w7) (b78 : Below w7.heap.size w7 w8) (b89 : Below w8.heap.size w8 w9) :
    Calls Try.prog 16 #[.pointer (some ⟨w9.heap.size + 1, 0, none⟩)] ((w9.alloc (.cells #[.slice A7 L c7, .slice A8 L c8] 23)).alloc (.cells #[.slice none 0 0, .slice none 0 0, .slice (some ⟨w9.heap.size, 0, none⟩) 2 2, .slice none 0 0] 42)) fun e w' => e = .returned (.bool true) ∧ Below w6.heap.size ((w9.alloc (.cells #[.slice A7 L c7, .slice A8 L c8] 23)).alloc (.cells #[.slice none 0 0, .slice none 0 0, .slice (some ⟨w9.heap.size, 0, none⟩) 2 2, .slice none 0 0] 42)) w' := by
  have z67 := b67.size
  have z78 := b78.size
  have z89 := b89.size
  have oW : Only w9 ((w9.alloc (.cells #[.slice A7 L c7, .slice A8 L c8] 23)).alloc (.cells #[.slice none 0 0, .slice none 0 0, .slice (some ⟨w9.heap.size, 0, none⟩) 2 2, .slice none 0 0] 42)) (fun _ => False) := ((Only.refl w9 (fun _ => False)).alloc _).alloc _
  have hB : Blk ((w9.alloc (.cells #[.slice A7 L c7, .slice A8 L c8] 23)).alloc (.cells #[.slice none 0 0, .slice none 0 0, .slice (some ⟨w9.heap.size, 0, none⟩) 2 2, .slice none 0 0] 42)) (w9.heap.size + 1) 42 [.slice none 0 0, .slice none 0 0, .slice (some ⟨w9.heap.size, 0, none⟩) 2 2, .slice none 0 0] := by
    have h := Blk.new (w9.alloc (.cells #[.slice A7 L c7, .slice A8 L c8] 23)) 42 [.slice none 0 0, .slice none 0 0, .slice (some ⟨w9.heap.size, 0, none⟩) 2 2, .slice none 0 0]
    simpa using h
  have hsp : Blk ((w9.alloc (.cells #[.slice A7 L c7, .slice A8 L c8] 23)).alloc (.cells #[.slice none 0 0, .slice none 0 0, .slice (some ⟨w9.heap.size, 0, none⟩) 2 2, .slice none 0 0] 42)) w9.heap.size 23 [.slice A7 L c7, .slice A8 L c8] := (Blk.new w9 23 [.slice A7 L c7, .slice A8 L c8]).alloc _
  have hS : Ap.slc.R 23 ((w9.alloc (.cells #[.slice A7 L c7, .slice A8 L c8] 23)).alloc (.cells #[.slice none 0 0, .slice none 0 0, .slice (some ⟨w9.heap.size, 0, none⟩) 2 2, .slice none 0 0] 42)) w6.heap.size (fun q => own23 w6.heap.size w7.heap.size w8.heap.size q = 0) (.slice (some ⟨w9.heap.size, 0, none⟩) ([((A7, L, c7) : Ap.SL), (A8, L, c8)]).length 2) [(A7, L, c7), (A8, L, c8)] :=
    Kd.R_of_own ⟨rfl, .inr ⟨w9.heap.size, 2, #[.slice A7 L c7, .slice A8 L c8], rfl, by omega, hsp, Nat.le_refl _, by unfold maxLen; omega, rfl, rfl⟩⟩ (fun k hk => by
      have hk : w9.heap.size = k := by simpa [Value.ownBlock] using hk
      subst hk
      unfold own23; rw [if_neg (by omega), if_neg (by omega)])
  have hP : Ap.Pieces .u8 5 ((w9.alloc (.cells #[.slice A7 L c7, .slice A8 L c8] 23)).alloc (.cells #[.slice none 0 0, .slice none 0 0, .slice (some ⟨w9.heap.size, 0, none⟩) 2 2, .slice none 0 0] 42)) w6.heap.size (own23 w6.heap.size w7.heap.size w8.heap.size) [(A7, L, c7), (A8, L, c8)] := fun k p hp => by
    match k, hp with
    | 0, hp =>
      cases hp
      refine ⟨data, hL, ?_⟩
      have h1 := Kd.R_mono (Kd.R_bound r7) (ok' := fun q => own23 w6.heap.size w7.heap.size w8.heap.size q = 0 + 2) (fun q hq => if_pos ⟨hq.2.1, hq.2.2.1⟩)
      have h2 : Below w7.heap.size w7 ((w9.alloc (.cells #[.slice A7 L c7, .slice A8 L c8] 23)).alloc (.cells #[.slice none 0 0, .slice none 0 0, .slice (some ⟨w9.heap.size, 0, none⟩) 2 2, .slice none 0 0] 42)) := (b78.trans (b89.mono z78)).trans (oW.below_all.mono (by omega))
      exact Kd.R_below h1 h2
    | 1, hp =>
      cases hp
      refine ⟨data, hL, ?_⟩
      have h1 := Kd.R_mono (Kd.R_bound r8) (ok' := fun q => own23 w6.heap.size w7.heap.size w8.heap.size q = 1 + 2) (fun q hq => (if_neg (by omega)).trans (if_pos ⟨hq.2.1, hq.2.2.1⟩))
      have h2 : Below w8.heap.size w8 ((w9.alloc (.cells #[.slice A7 L c7, .slice A8 L c8] 23)).alloc (.cells #[.slice none 0 0, .slice none 0 0, .slice (some ⟨w9.heap.size, 0, none⟩) 2 2, .slice none 0 0] 42)) := b89.trans (oW.below_all.mono (by omega))
      exact Kd.R_lower (Kd.R_below h1 h2) z67
  have hz := oW.size
  refine (Ap.book_bytes (w9.heap.size + 1) (some ⟨w9.heap.size, 0, none⟩) 2 w6.heap.size (own23 w6.heap.size w7.heap.size w8.heap.size) [(A7, L, c7), (A8, L, c8)] _ (Lib.hid hB) (Lib.hid (by unfold own23; rw [if_neg (by omega), if_neg (by omega)]; decide)) (Lib.hid hS) (Lib.hid hP) (by omega) (by show 2 * 24 ≤ 140737488355328; decide) (Lib.hid (fun p hp => by
    have h9 : L + 9 ≤ 140737488355328 := by omega
    rcases List.mem_cons.1 hp with rfl | hp
    · exact h9
    · rw [List.mem_singleton.1 hp]; exact h9))).mono ?_
  rintro e w' ⟨rfl, o⟩
  refine ⟨rfl, o.below (by omega) (fun k hk h => ?_)⟩
  have h : 2 ≤ own23 w6.heap.size w7.heap.size w8.heap.size k := h
  unfold own23 at h
  rw [if_neg (by omega), if_neg (by omega)] at h
  omega
end Go.Proofs.Ytochnokfcfmgnaa.St
end

section
/- Seat F: ShadowKeeps, walked. -/
namespace Go.Proofs.Ytochnokfcfmgnaa.St
open Go Go.RowKit Go.Shelf Go.Proofs.Ytochnokfcfmgnaa.Mem Go.Proofs.YtochnokfcfmgnaaW.PrintWords Go.Proofs.Ytochnokfcfmgnaa.Dk Go.Maps Go.ChangeMaps Go.Proofs.Ytochnokfcfmgnaa.Sh Go.Proofs.Ytochnokfcfmgnaa.Sp
set_option linter.unusedVariables false
set_option linter.unusedSimpArgs false
attribute [local go_sem] Oper.semAt_some
set_option maxRecDepth 100000
set_option maxHeartbeats 4000000
theorem cells_new (w : World) (us : List Value) (t : TypeId) : ∀ j u, us[j]? = some u → (w.alloc (.cells us.toArray t)).cell? ((⟨w.heap.size, 0, none⟩ : Addr).add j) = some u := by
  intro j u hj
  have h := (Blk.new w t us).cell_at (0 + j) u (by rw [Nat.zero_add]; exact hj)
  rw [add_flat]
  exact h
theorem same_self (A B : Option Addr) (c c' : Nat) (a : List Int) (w : World) (ha : (Kd.int .u8).C w A a.length a) (hc : a.length ≤ c) (hb : (Kd.int .u8).C w B a.length a) (hc' : a.length ≤ c') (hl : a.length ≤ 140737488355328) :
    Calls Try.prog 14 #[.slice A a.length c, .slice B a.length c'] w fun e w' => e = .returned (.bool true) ∧ Below w.heap.size w w' := by
  have h := same_any A B c c' a a w ha hc hb hc' hl
  rw [decide_eq_true rfl] at h
  exact h
theorem keeps_app {w2 w3 w4 : World} {A3 : Option Addr} {c3 : Nat} {data : List Int} {v4 : Value} (hd : data.length ≤ 116) (r3 : (Kd.int .u8).R 5 w3 w2.heap.size (fun _ => True) (.slice A3 data.length c3) data) (b3 : Below w2.heap.size w2 w3)
    (hown : w4.ownsRow w2.heap.size 5 1 v4 (data.length + 2) (encs (Value.int .u8) data ++ [Value.int .u8 71, Value.int .u8 72])) (hg : (w3.alloc (.cells #[.int .u8 71, .int .u8 72] 5)).grownBy w4 (Value.slice A3 data.length c3).ownBlock) :
    ∃ gF cF junk, v4 = .slice (some ⟨gF, 0, none⟩) (data.length + 2) cF ∧ w2.heap.size ≤ gF ∧ data.length + 2 ≤ cF ∧ Blk w4 gF 5 (icells .u8 (data ++ [71, 72]) ++ junk) ∧ Below w2.heap.size w2 w4 := by
  have e1 : (data ++ [71, 72]).length = data.length + 2 := by simp
  have e2 : encs (Value.int .u8) (data ++ [71, 72]) = encs (Value.int .u8) data ++ [.int .u8 71, .int .u8 72] := by simp [encs]
  have r4 : (Kd.int .u8).R 5 w4 w2.heap.size (fun _ => True) v4 (data ++ [71, 72]) := Kd.R_of_own (enc := Value.int .u8) (h1 := fun _ => rfl) (by rw [e1, e2]; exact hown) (fun _ _ => trivial)
  obtain ⟨gF, cF, junk, ev4, q1, q2, q3, q4, q5, q6⟩ := R_open r4 (by rw [e1]; omega)
  rw [e1] at ev4 q3 q5
  refine ⟨gF, cF, junk, ev4, q1, q3, q6, ?_⟩
  exact (((Only.of_below b3 (fun k => w2.heap.size ≤ k)).alloc (.cells #[.int .u8 71, .int .u8 72] 5)).step (Only.of_grown hg) (fun k hk e => Kd.R_base r3 k e.symm)).below (Nat.le_refl _) (fun k hk h => by omega)
/-- What the rounds read. -/
structure Kp1 (w W : World) (L Bp : Nat) (cut : Int) (A12 : Option Addr) (c12 : Nat) (v14 : Value) (ks : List Int) : Prop where
  cut : Blk W w.heap.size 3 [.int .i64 cut]
  res : Blk W (w.heap.size + 1) 4 [.bool false]
  wan : Blk W L 43 [.slice A12 ks.length c12]
  r12 : Row W (fun k => k < W.heap.size) .i64 (.slice A12 ks.length c12) ks
  itb : Blk W Bp 43 [v14]
  r14 : Row W (fun k => k < W.heap.size) .i64 v14 ks
  bel : Below w.heap.size w W
theorem Kp1.below {w W W' : World} {L Bp : Nat} {cut : Int} {A12 : Option Addr} {c12 : Nat} {v14 : Value} {ks : List Int} (h : Kp1 w W L Bp cut A12 c12 v14 ks) (hb : Below W.heap.size W W') : Kp1 w W' L Bp cut A12 c12 v14 ks :=
  ⟨h.cut.below hb h.cut.lt, h.res.below hb h.res.lt, h.wan.below hb h.wan.lt, (h.r12.keep (Only.of_below hb (fun _ => False)) (fun _ _ h => h)).mono (fun b hb2 _ => hb2), h.itb.below hb h.itb.lt, (h.r14.keep (Only.of_below hb (fun _ => False)) (fun _ _ h => h)).mono (fun b hb2 _ => hb2), h.bel.trans (hb.mono h.bel.size)⟩
/-- Within a round. -/
def RI (Wa : World) (Ln m : Nat) (W : World) : Prop := Only Wa W (fun b => b = Ln) ∧ Blk W Ln 3 [.int .i64 (m : Int)]
theorem RI.abides {Wa W W' : World} {Ln m : Nat} {row : Option Nat} (h : RI Wa Ln m W) (hln : Ln < Wa.heap.size) (hg : W.grownBy W' row) (hr : ∀ r, row = some r → Wa.heap.size ≤ r ∧ ∃ o : Obj, W.heap[r]? = some o ∧ o.isCells = false) : RI Wa Ln m W' := by
  refine ⟨h.1.step (Only.of_grown hg) (fun k hk e => by have := (hr k e.symm).1; omega), ?_⟩
  have hl := h.2.lt
  refine (hg.block Ln hl (fun e => ?_)).trans h.2
  have := (hr Ln e.symm).1
  omega
theorem RI.step {Wa W : World} {Ln m : Nat} (h : RI Wa Ln m W) : RI Wa Ln (m + 1) (W.setCell ⟨Ln, 0, none⟩ (.int .i64 ((m + 1 : Nat) : Int))) :=
  ⟨h.1.setCell (fun _ => rfl) _, h.2.set_ 0 _⟩
/-- The end: what the two ranges put off is nothing. -/
theorem keeps_end {w W : World} {L Bp : Nat} {cut : Int} {A12 : Option Addr} {c12 : Nat} {v14 : Value} {ks : List Int} (KQ : Kp1 w W L Bp cut A12 c12 v14 ks) {D1 D2 : Nat} (h1 : W.heap[D1]? = some (.deferred (some []))) (h2 : W.heap[D2]? = some (.deferred (some []))) (hne : D1 ≠ D2) (hb1 : w.heap.size ≤ D1) (hb2 : w.heap.size ≤ D2)
    (T : Array Value) (hT : T.getD 10 undef = .pointer (some ⟨w.heap.size + 1, 0, none⟩)) :
    bodyPostM Fence.wide 9 Try.prog Try.f4 (fun e w' => e = .returned (.bool true) ∧ Below w.heap.size w w') Exit.ret { tmps := T, defers := [{ target := Target.collected D2, args := #[] }, { target := Target.collected D1, args := #[] }] } (W.setCell ⟨w.heap.size + 1, 0, none⟩ (.bool true)) := by
  have hres : Try.f4.results = #[.cell 10 4] := by kernel_rfl
  have r2 := KQ.res.set_ 0 (.bool true)
  have nD : ∀ D, W.heap[D]? = some (.deferred (some [])) → D ≠ w.heap.size + 1 := fun D h e => by
    have h3 := KQ.res
    unfold Blk at h3
    rw [e, h3] at h
    cases h
  have k1 : (W.setCell ⟨w.heap.size + 1, 0, none⟩ (.bool true)).heap[D1]? = some (.deferred (some [])) := (Below.heap_setCell W ⟨w.heap.size + 1, 0, none⟩ _ D1 (nD D1 h1)).trans h1
  have k2 : (W.setCell ⟨w.heap.size + 1, 0, none⟩ (.bool true)).heap[D2]? = some (.deferred (some [])) := (Below.heap_setCell W ⟨w.heap.size + 1, 0, none⟩ _ D2 (nD D2 h2)).trans h2
  have O1 : Only w (W.setCell ⟨w.heap.size + 1, 0, none⟩ (.bool true)) (fun k => w.heap.size ≤ k) := (Only.of_below KQ.bel (fun k => w.heap.size ≤ k)).setCell (p := ⟨w.heap.size + 1, 0, none⟩) (fun _ => by show w.heap.size ≤ w.heap.size + 1; omega) _
  have e1 := nD D1 h1
  have e2 := nD D2 h2
  generalize W.setCell ⟨w.heap.size + 1, 0, none⟩ (.bool true) = V at *
  refine ⟨by simp, .inl ⟨_, _, rfl, run_takeDeferred k2, ?_⟩⟩
  have g2 := grownBy_putObj' V D2 (.deferred none)
  have k1' : (V.putObj D2 (.deferred none)).heap[D1]? = some (.deferred (some [])) := (g2.block D1 (Array.getElem?_eq_some_iff.1 k1).1 (fun e => by injection e with e; exact hne e)).trans k1
  have r3 : Blk (V.putObj D2 (.deferred none)) (w.heap.size + 1) 4 [.bool true] := (g2.block _ r2.lt (fun e => by injection e with e; omega)).trans r2
  have O2 := O1.step (Only.of_grown g2) (fun k _ h => by injection h with h; omega)
  generalize V.putObj D2 (.deferred none) = V2 at *
  refine ⟨by simp, .inl ⟨_, _, rfl, run_takeDeferred k1', ?_⟩⟩
  have g1 := grownBy_putObj' V2 D1 (.deferred none)
  have r4 : Blk (V2.putObj D1 (.deferred none)) (w.heap.size + 1) 4 [.bool true] := (g1.block _ r3.lt (fun e => by injection e with e; omega)).trans r3
  have O3 := O2.step (Only.of_grown g1) (fun k _ h => by injection h with h; omega)
  generalize V2.putObj D1 (.deferred none) = V3 at *
  have x2 := r4.cell_at 0 _ rfl
  refine ⟨.bool true, ?_, rfl, O3.below (Nat.le_refl _) (fun k hk h => by omega)⟩
  have hT2 : T[10]?.getD undef = .pointer (some ⟨w.heap.size + 1, 0, none⟩) := by simpa using hT
  simp [results, hres, asAddr, go_sem, hT2, x2]
theorem keeps_in (s i cut : Int) (A Ad : Option Addr) (cc cd : Nat) (script : List OpV) (data : List Int) (w : World) (hs : Script w A cc script) (hd : (Kd.int .u8).C w Ad data.length data) (hdc : data.length ≤ cd) (hdl : data.length ≤ 140737488351232) (hdb : ∀ y ∈ data, 0 ≤ y ∧ y < 256) :
    CallsIn Fence.wide 9 Try.prog 4 #[.int .i64 s, .slice A script.length cc, .int .i64 i, .slice Ad data.length cd, .int .i64 cut] w fun e w' => e = .returned (.bool true) ∧ Below w.heap.size w w' := by
  have hfn := func_ne
  obtain ⟨n, hn⟩ : ∃ n, n = sectorsOf s := ⟨_, rfl⟩
  have hr := sectorsOf_range s
  rw [← hn] at hr
  have SO := grown_ok hr.1 hr.2 hs.ok
  have HSC := Lib.hid hs
  have HD := Lib.hid hd
  have HDB := Lib.hid hdb
  obtain ⟨S, hS⟩ : ∃ S, S = grownV n script := ⟨_, rfl⟩
  rw [← hS] at SO
  have HSO := Lib.hid SO.1
  have hsl := hs.size
  have hscc := hs.cap
  have BA := Lib.hid ((((Only.refl w (fun _ => False)).alloc (.cells #[.int .i64 cut] 3)).alloc (.cells #[.bool false] 4)).below_all)
  have X1 : Hid (Blk ((w.alloc (.cells #[.int .i64 cut] 3)).alloc (.cells #[.bool false] 4)) w.heap.size 3 [.int .i64 cut]) := Lib.hid ((Blk.new w 3 [.int .i64 cut]).alloc _)
  have X2 : Hid (Blk ((w.alloc (.cells #[.int .i64 cut] 3)).alloc (.cells #[.bool false] 4)) (w.heap.size + 1) 4 [.bool false]) := Lib.hid (by have h := Blk.new (w.alloc (.cells #[.int .i64 cut] 3)) 4 [.bool false]; simpa using h)
  have GR := Lib.hid (show ∀ W, Below w.heap.size w W → Calls Try.prog 9 #[.int .i64 s, .slice A script.length cc] W fun e w' => ∃ g st own, e = .returned (.tuple #[.pointer (some ⟨g, 0, none⟩), .pointer (some ⟨st, 0, none⟩)]) ∧ St w' own W.heap.size g st S ∧ Below W.heap.size W w' from fun W hb => by
    have h := grown_c s A cc script W (Kd.C_below HSC.out.cells hb) HSC.out.cap HSC.out.ok HSC.out.size
    rw [← hn, ← hS] at h
    exact h)
  have Z2 : Hid (((w.alloc (.cells #[.int .i64 cut] 3)).alloc (.cells #[.bool false] 4)).heap.size = w.heap.size + 2) := Lib.hid (by simp)
  clear hs hd hdb SO hS hn
  have hcase : (i < 0) ∨ (¬ i < 0 ∧ 728 ≤ i) ∨ (0 ≤ i ∧ i < 728 ∧ 116 < data.length) ∨ (0 ≤ i ∧ i < 728 ∧ data.length ≤ 116) := by omega
  rcases hcase with hi | ⟨hi, hi2⟩ | ⟨hi, hi2, hl⟩ | ⟨hi, hi2, hl⟩
  · refine callsIn_of_wp_marks Try.func4 rfl trivial ?_ rfl
    simp only [Try.ntmps4, List.size_toArray, List.length_cons, List.length_nil, Nat.reduceAdd, Nat.reduceSub, Array.replicate_succ, Array.replicate_zero, List.push_toArray, List.append_toArray, List.nil_append, List.cons_append]
    gi_wp2_with (first
      | (refine ⟨trivial, ?_⟩; gi_at_call 9; refine (callsIn_wide.2 (GR.out _ BA.out)).mono ?_; rintro e w1 ⟨g, st, own, rfl, s1, b1⟩; replace BA := Lib.hid (BA.out.trans (b1.mono BA.out.size)); have Y2 := Lib.hid (X2.out.below b1 X2.out.lt); have f2 := Y2.out.frozen 0; have c2 := Y2.out.cell_at 0 _ rfl; clear s1 b1)
      | (refine ⟨trivial, ?_⟩; gi_at_call 10; refine (callsIn_wide.2 (awake_c _)).mono ?_; rintro e w2 ⟨rfl, b2⟩; replace BA := Lib.hid (BA.out.trans (b2.mono BA.out.size)); replace Y2 := Lib.hid (Y2.out.below b2 Y2.out.lt); replace f2 := Y2.out.frozen 0; replace c2 := Y2.out.cell_at 0 _ rfl; clear b2)
      | fail)
    have x2 := (Y2.out.set_ 0 (.bool true)).cell_at 0 _ rfl
    have hres : Try.f4.results = #[.cell 10 4] := by kernel_rfl
    refine ⟨.bool true, ?_, rfl, BA.out.setCell (p := ⟨w.heap.size + 1, 0, none⟩) (by show w.heap.size ≤ w.heap.size + 1; omega) _⟩
    simp [results, hres, asAddr, go_sem, x2]
  · refine callsIn_of_wp_marks Try.func4 rfl trivial ?_ rfl
    simp only [Try.ntmps4, List.size_toArray, List.length_cons, List.length_nil, Nat.reduceAdd, Nat.reduceSub, Array.replicate_succ, Array.replicate_zero, List.push_toArray, List.append_toArray, List.nil_append, List.cons_append]
    gi_wp2_with (first
      | (refine ⟨trivial, ?_⟩; gi_at_call 9; refine (callsIn_wide.2 (GR.out _ BA.out)).mono ?_; rintro e w1 ⟨g, st, own, rfl, s1, b1⟩; replace BA := Lib.hid (BA.out.trans (b1.mono BA.out.size)); have Y2 := Lib.hid (X2.out.below b1 X2.out.lt); have f2 := Y2.out.frozen 0; have c2 := Y2.out.cell_at 0 _ rfl; clear s1 b1)
      | (refine ⟨trivial, ?_⟩; gi_at_call 10; refine (callsIn_wide.2 (awake_c _)).mono ?_; rintro e w2 ⟨rfl, b2⟩; replace BA := Lib.hid (BA.out.trans (b2.mono BA.out.size)); replace Y2 := Lib.hid (Y2.out.below b2 Y2.out.lt); replace f2 := Y2.out.frozen 0; replace c2 := Y2.out.cell_at 0 _ rfl; clear b2)
      | fail)
    have x2 := (Y2.out.set_ 0 (.bool true)).cell_at 0 _ rfl
    have hres : Try.f4.results = #[.cell 10 4] := by kernel_rfl
    refine ⟨.bool true, ?_, rfl, BA.out.setCell (p := ⟨w.heap.size + 1, 0, none⟩) (by show w.heap.size ≤ w.heap.size + 1; omega) _⟩
    simp [results, hres, asAddr, go_sem, x2]
  · have hl2 : (116 : Int) < (data.length : Int) := by omega
    have hi3 : ¬ i < 0 := by omega
    have hi4 : ¬ 728 ≤ i := by omega
    clear hi hi2
    refine callsIn_of_wp_marks Try.func4 rfl trivial ?_ rfl
    simp only [Try.ntmps4, List.size_toArray, List.length_cons, List.length_nil, Nat.reduceAdd, Nat.reduceSub, Array.replicate_succ, Array.replicate_zero, List.push_toArray, List.append_toArray, List.nil_append, List.cons_append]
    gi_wp2_with (first
      | (refine ⟨trivial, ?_⟩; gi_at_call 9; refine (callsIn_wide.2 (GR.out _ BA.out)).mono ?_; rintro e w1 ⟨g, st, own, rfl, s1, b1⟩; replace BA := Lib.hid (BA.out.trans (b1.mono BA.out.size)); have Y2 := Lib.hid (X2.out.below b1 X2.out.lt); have f2 := Y2.out.frozen 0; have c2 := Y2.out.cell_at 0 _ rfl; clear s1 b1)
      | (refine ⟨trivial, ?_⟩; gi_at_call 10; refine (callsIn_wide.2 (awake_c _)).mono ?_; rintro e w2 ⟨rfl, b2⟩; replace BA := Lib.hid (BA.out.trans (b2.mono BA.out.size)); replace Y2 := Lib.hid (Y2.out.below b2 Y2.out.lt); replace f2 := Y2.out.frozen 0; replace c2 := Y2.out.cell_at 0 _ rfl; clear b2)
      | fail)
    have x2 := (Y2.out.set_ 0 (.bool true)).cell_at 0 _ rfl
    have hres : Try.f4.results = #[.cell 10 4] := by kernel_rfl
    refine ⟨.bool true, ?_, rfl, BA.out.setCell (p := ⟨w.heap.size + 1, 0, none⟩) (by show w.heap.size ≤ w.heap.size + 1; omega) _⟩
    simp [results, hres, asAddr, go_sem, x2]
  · have hl2 : ¬ (116 : Int) < (data.length : Int) := by omega
    have hi3 : ¬ i < 0 := by omega
    have hi4 : ¬ 728 ≤ i := by omega
    have HE := Lib.hid (show putE i data = 0 by unfold putE; rw [if_neg (by omega), if_neg (by omega)])
    have hl100 : data.length ≤ 100000 := by omega
    have hll : (data.length : Int) ≤ 116 := by omega
    clear hi hi2
    refine callsIn_of_wp_marks Try.func4 rfl trivial ?_ rfl
    simp only [Try.ntmps4, List.size_toArray, List.length_cons, List.length_nil, Nat.reduceAdd, Nat.reduceSub, Array.replicate_succ, Array.replicate_zero, List.push_toArray, List.append_toArray, List.nil_append, List.cons_append]
    gi_wp2_with (first
      | (refine ⟨trivial, ?_⟩; gi_at_call 9; refine (callsIn_wide.2 (GR.out _ BA.out)).mono ?_; rintro e w1 ⟨g, st, own1, rfl, s1, b1⟩; have HS1 := Lib.hid s1; have B01 := Lib.hid b1; clear s1 b1)
      | (refine ⟨trivial, ?_⟩; gi_at_call 10; refine (callsIn_wide.2 (awake_c _)).mono ?_; rintro e w2 ⟨rfl, b2⟩; have B2 := Lib.hid b2; clear b2)
      | fail)
    generalize ((w.alloc (.cells #[.int .i64 cut] 3)).alloc (.cells #[.bool false] 4)) = wA at *
    have B02 := Lib.hid (B01.out.trans (B2.out.mono B01.out.size))
    have HDA := Lib.hid (Kd.C_below HD.out BA.out)
    have HS2 := Lib.hid (HS1.out.below B2.out 0)
    obtain ⟨own2, ho2⟩ : ∃ own2, own2 = upd own1 w1.heap.size 0 := ⟨_, rfl⟩
    rw [← ho2] at HS2
    obtain ⟨i0, hi0, hz0, hz1', hz2'⟩ := info_parts (show (Try.prog.info? 5).map (fun i => (i.zero, i.size, i.bytes)) = some (some (.int .u8 0), 1, 1) by kernel_rfl)
    gi_wp2_with (first
      | (refine ⟨trivial, ?_⟩; gi_at_call 13; refine (callsIn_wide.2 (own_c Ad cd data _ (Kd.C_below HDA.out B02.out) hdc hdl)).mono ?_; rintro e w3 ⟨v3, rfl, r3, b3⟩; obtain ⟨A3, c3, ev3⟩ := Kd.R_slice r3; subst ev3; have R3 := Lib.hid r3; have B3 := Lib.hid b3; clear r3 b3)
      | (gi_at_builtin; refine wpListIn_append_own_at _ rfl (.tmp 55) (.tmp 56) 23 rfl w2.heap.size 5 i0 (.int .u8 0) 1 1 Try.underlying23 hi0 hz0 hz1' hz2' rfl (by decide) (.slice A3 data.length c3) data.length _ rfl (World.ownsRow.alloc (Kd.own_of_R R3.out) _) ⟨w3.heap.size, 0, none⟩ 2 2 [.int .u8 71, .int .u8 72] rfl rfl (cells_new w3 _ 5) (by simp [Value.oneCell']) (by unfold maxLen; omega) (by omega) (by have := B3.out.size; simp; omega) ?_; intro v4 w4 hown hg hnil hat
         obtain ⟨gF, cF, junk, ev4, q1, q3, q6, b4⟩ := keeps_app (by omega) R3.out B3.out hown hg
         subst ev4
         have B4 := Lib.hid b4
         have FB := Lib.hid q6
         have HQ1 := Lib.hid q1
         have lt4 : (data.length : Int) + 2 ≤ (cF : Int) := by omega
         have lt5 : (data.length : Int) ≤ (cF : Int) := by omega
         have hQ3 := Lib.hid q3
         clear hown hg hnil hat q1 q3 q6 b4)
      | fail)
    have B04 := Lib.hid (B02.out.trans (B4.out.mono B02.out.size))
    have HS4 := Lib.hid (HS2.out.below B4.out 0)
    obtain ⟨own4, ho4⟩ : ∃ own4, own4 = upd own2 w2.heap.size 0 := ⟨_, rfl⟩
    have HO4 := Lib.hid ho4
    rw [← ho4] at HS4
    have hc4 : (Kd.int .u8).C w4 (some ⟨gF, 0, none⟩) data.length data := C_cells (fun j hj => by
      have h := FB.out.cell_at (0 + j) (.int .u8 data[j]) (by rw [Nat.zero_add]; unfold icells; rw [List.getElem?_append_left (by simp; omega), List.getElem?_map, List.getElem?_append_left hj, List.getElem?_eq_getElem hj]; rfl)
      exact h) hl100
    have P5 := put_c HS4.out i (some ⟨gF, 0, none⟩) cF data hc4 (.inr ⟨gF, 0, rfl⟩) hdl
    rw [HE.out] at P5
    have P5H := Lib.hid P5
    clear P5 hc4
    have GPUT := Lib.hid (put_get (S := S) HE.out)
    have OF4 := Lib.hid (show own4 gF = 0 by rw [HO4.out]; exact upd_ge HQ1.out)
    have FC := Lib.hid (show ∀ W, Only w4 W (fun b => own4 b = 3) → Blk W gF 5 (icells .u8 (data ++ [71, 72]) ++ junk) from fun W ho => FB.out.keep ho (by rw [OF4.out]; decide))
    have y71 : ∀ W, Blk W gF 5 (icells .u8 (data ++ [71, 72]) ++ junk) → W.cell? ⟨gF, data.length, none⟩ = some (.int .u8 71) ∧ W.cell? ⟨gF, data.length + 1, none⟩ = some (.int .u8 72) := fun W hb => ⟨hb.cell_at data.length _ (by unfold icells; rw [List.getElem?_append_left (by simp), List.getElem?_map, List.getElem?_append_right (Nat.le_refl _), Nat.sub_self]; rfl), hb.cell_at (data.length + 1) _ (by unfold icells; rw [List.getElem?_append_left (by simp), List.getElem?_map, List.getElem?_append_right (by omega), show data.length + 1 - data.length = 1 by omega]; rfl)⟩
    have Y71 := Lib.hid y71
    clear y71
    have T5 := P5H
    gi_wp2_with (first | (refine ⟨trivial, ?_⟩; gi_at_call 12; refine (callsIn_wide.2 T5.out).mono ?_; rintro e w5 ⟨rfl, s5, o5⟩; have HS5 := Lib.hid s5; have O5 := Lib.hid o5; obtain ⟨e71, e72⟩ := Y71.out _ (FC.out _ o5); clear s5 o5 T5) | fail)
    have B05 := Lib.hid (B04.out.trans (HS4.out.own0 (O5.out.mono (fun k _ h => .inr h))))
    have FB5 := Lib.hid (FC.out _ O5.out)
    have OF5 := Lib.hid (show upd own4 w4.heap.size 2 gF = 0 by rw [upd_lt FB.out.lt]; exact OF4.out)
    obtain ⟨own5, ho5⟩ : ∃ own5, own5 = upd own4 w4.heap.size 2 := ⟨_, rfl⟩
    obtain ⟨S1, hS1⟩ : ∃ S1, S1 = putV S i data := ⟨_, rfl⟩
    rw [← ho5] at HS5 OF5
    rw [← hS1] at HS5 GPUT
    have HQA := Lib.hid (Nat.le_trans B02.out.size HQ1.out)
    clear ho5 hS1 e71 e72 Y71 FC FB O5 OF4 P5H HE HO4 HS4 B04 HS2 HS1 B01 B02 B3 B4 R3 HQ1
    gi_loopw [14] (fun iv wr => ∃ (k : Nat) (cs : List Value), k ≤ data.length + 2 ∧ iv = .int .i64 k ∧ Aside1 (data.length + 2 ≤ cs.length) ∧ Aside1 (Blk wr gF 5 cs) ∧ Aside1 (Only w5 wr (fun b => b = gF))) (fun iv _ => data.length + 2 - (intOf iv).toNat)
    case atStart => exact ⟨0, _, by omega, rfl, ⟨by unfold icells; simp⟩, ⟨FB5.out⟩, ⟨Only.refl _ _⟩⟩
    case round =>
      obtain ⟨k, cs, hk, rfl, ⟨hcs⟩, ⟨hB⟩, ⟨hO⟩⟩ := hrel
      have HCS := Lib.hid hcs
      have HBB := Lib.hid hB
      have HOO := Lib.hid hO
      clear hcs hB hO
      have hk0 : (k : Int) ≤ 118 := by omega
      by_cases hlt : k < data.length + 2
      · have hki : (k : Int) < (data.length : Int) + 2 := by omega
        have hk00 : (0 : Int) ≤ (k : Int) := by omega
        have hkc : k < cs.length := by have := HCS.out; omega
        have fk := HBB.out.frozen k
        have ck := HBB.out.cell_at k cs[k] (List.getElem?_eq_getElem hkc)
        gi_wp2
        go_roundw
        case rel => exact ⟨k + 1, cs.set k (.int .u8 99), by omega, by simp, ⟨by rw [List.length_set]; exact HCS.out⟩, ⟨HBB.out.set_ k _⟩, ⟨HOO.out.setCell (fun _ => rfl) _⟩⟩
        case measure => simp [intOf]; omega
      · have hki : ¬ (k : Int) < (data.length : Int) + 2 := by omega
        have HS6 := Lib.hid (HS5.out.keep HOO.out (fun b hb e => by have := OF5.out; rw [← e] at this; rw [this] at hb; rcases hb with hb | hb | hb <;> cases hb) 0)
        obtain ⟨own6, ho6⟩ : ∃ own6, own6 = upd own5 w5.heap.size 0 := ⟨_, rfl⟩
        rw [← ho6] at HS6
        have B06 := Lib.hid (show Below wA.heap.size wA wr from ((Only.of_below B05.out (fun b => b = gF)).step HOO.out (fun _ _ h => h)).below (Nat.le_refl _) (fun b hb e => by have := HQA.out; omega))
        obtain ⟨w6, hw6⟩ : ∃ w6, w6 = wr := ⟨_, rfl⟩
        subst hw6
        have T6 := get_c HS6.out i
        rw [GPUT.out] at T6
        have T6H := Lib.hid T6
        clear T6 HS5 OF5 B05 FB5 HBB HOO HCS HQA ho6
        gi_wp2_with (first
          | (refine ⟨trivial, ?_⟩; gi_at_call 11; refine (callsIn_wide.2 T6H.out).mono ?_; rintro e w7 ⟨v7, rfl, r7, b7⟩; obtain ⟨A7, c7, ev7⟩ := Kd.R_slice r7; subst ev7; have R7 := Lib.hid r7; have B7 := Lib.hid b7; clear r7 b7 T6H)
          | fail)
        have HS7 := HS6.out.below B7.out 0
        have T7 := get_c HS7 i
        rw [GPUT.out] at T7
        have T7H := Lib.hid T7
        clear T7 HS7
        gi_wp2_with (first
          | (refine ⟨trivial, ?_⟩; gi_at_call 11; refine (callsIn_wide.2 T7H.out).mono ?_; rintro e w8 ⟨v8, rfl, r8, b8⟩; obtain ⟨A8, c8, ev8⟩ := Kd.R_slice r8; subst ev8; have R8 := Lib.hid r8; have B8 := Lib.hid b8; clear r8 b8 T7H)
          | fail)
        have HD8 := Kd.C_below HDA.out (B06.out.trans ((B7.out.trans (B8.out.mono B7.out.size)).mono B06.out.size))
        have rr7 := Kd.R_reads' (Kd.R_below R7.out B8.out)
        have SA := same_self A7 Ad c7 cd data w8 rr7.2.2 rr7.2.1 HD8 hdc (by omega)
        have SAH := Lib.hid SA
        have BK := Lib.hid (show ∀ w9, Below w8.heap.size w8 w9 → Calls Try.prog 16 #[.pointer (some ⟨w9.heap.size + 1, 0, none⟩)] ((w9.alloc (.cells #[.slice A7 data.length c7, .slice A8 data.length c8] 23)).alloc (.cells #[.slice none 0 0, .slice none 0 0, .slice (some ⟨w9.heap.size, 0, none⟩) 2 2, .slice none 0 0] 42)) fun e w' => e = .returned (.bool true) ∧ Below w6.heap.size ((w9.alloc (.cells #[.slice A7 data.length c7, .slice A8 data.length c8] 23)).alloc (.cells #[.slice none 0 0, .slice none 0 0, .slice (some ⟨w9.heap.size, 0, none⟩) 2 2, .slice none 0 0] 42)) w' from fun w9 b9 => book_two rfl (by omega) R7.out R8.out B7.out B8.out b9)
        clear HD8 rr7 SA
        gi_wp2_with (first
          | (refine ⟨trivial, ?_⟩; gi_at_call 14; refine (callsIn_wide.2 SAH.out).mono ?_; rintro e w9 ⟨rfl, b9⟩; have B9 := Lib.hid b9; clear b9 SAH)
          | (refine ⟨trivial, ?_⟩; gi_at_call 16; refine (callsIn_wide.2 (BK.out w9 B9.out)).mono ?_; rintro e w10 ⟨rfl, b10⟩; have B10 := Lib.hid b10; clear b10 BK)
          | fail)
        have B610 := Lib.hid (show Below w6.heap.size w6 w10 from by
          have h1 := B7.out.trans ((B8.out.trans (B9.out.mono B8.out.size)).mono B7.out.size)
          have h2 : Below w6.heap.size w9 ((w9.alloc (.cells #[.slice A7 data.length c7, .slice A8 data.length c8] 23)).alloc (.cells #[.slice none 0 0, .slice none 0 0, .slice (some ⟨w9.heap.size, 0, none⟩) 2 2, .slice none 0 0] 42)) := ((((Only.refl w9 (fun _ => False)).alloc _).alloc _).below_all).mono h1.size
          exact (h1.trans h2).trans B10.out)
        have B010 := Lib.hid (B06.out.trans (B610.out.mono B06.out.size))
        have HS10 := Lib.hid (HS6.out.below B610.out 0)
        obtain ⟨own10, ho10⟩ : ∃ own10, own10 = upd own6 w6.heap.size 0 := ⟨_, rfl⟩
        rw [← ho10] at HS10
        have T10 := get_c HS10.out i
        rw [GPUT.out] at T10
        have T10H := Lib.hid T10
        clear T10 ho10 HS6 B610 B06 B10 B9 B8 B7 R7 R8
        gi_wp2_with (first
          | (refine ⟨trivial, ?_⟩; gi_at_call 11; refine (callsIn_wide.2 T10H.out).mono ?_; rintro e w11 ⟨v11, rfl, r11, b11⟩; obtain ⟨A11, c11, ev11⟩ := Kd.R_slice r11; subst ev11; have R11 := Lib.hid r11; have B11 := Lib.hid b11; clear r11 b11 T10H)
          | fail)
        have HS11 := Lib.hid (HS10.out.below B11.out 0)
        have B011 := Lib.hid (B010.out.trans (B11.out.mono B010.out.size))
        obtain ⟨own11, ho11⟩ : ∃ own11, own11 = upd own10 w10.heap.size 0 := ⟨_, rfl⟩
        rw [← ho11] at HS11
        have LC := Lib.hid (listed_c HS11.out)
        clear HS10 ho11
        obtain ⟨ks, hks⟩ : ∃ ks, ks = keysI S1.now := ⟨_, rfl⟩
        have hkl : ks.length ≤ 728 := by rw [hks]; exact keysI_len _
        rw [← hks] at LC
        have HKS := Lib.hid hks
        clear hks
        gi_wp2_with (first
          | (refine ⟨trivial, ?_⟩; gi_at_call 17; refine (callsIn_wide.2 LC.out).mono ?_; rintro e w12 ⟨v12, rfl, r12, b12⟩; have RW12 := Lib.hid r12; obtain ⟨A12, c12, ev12, _⟩ := r12; subst ev12; have B12 := Lib.hid b12; clear b12 LC)
          | fail)
        have O13 : Only w12 (w12.alloc (.cells #[.slice A12 ks.length c12] 43)) (fun _ => False) := (Only.refl w12 (fun _ => False)).alloc _
        have B13 := Lib.hid (show Below w11.heap.size w11 (w12.alloc (.cells #[.slice A12 ks.length c12] 43)) from B12.out.trans (O13.below_all.mono B12.out.size))
        have B013 := Lib.hid (B011.out.trans (B13.out.mono B011.out.size))
        have HS13 := Lib.hid (HS11.out.below B13.out 0)
        have WB13 := Lib.hid (Blk.new w12 43 [.slice A12 ks.length c12])
        have R13 := Lib.hid (RW12.out.keep O13 (fun _ _ h => h))
        have ZL := Lib.hid (show w12.heap.size < (w12.alloc (.cells #[.slice A12 ks.length c12] 43)).heap.size by simp)
        have Z12 := Lib.hid (Nat.le_trans B011.out.size B12.out.size)
        have ZL2 := Lib.hid B12.out.size
        obtain ⟨L, hL⟩ : ∃ L, L = w12.heap.size := ⟨_, rfl⟩
        rw [← hL] at WB13 ZL Z12 ZL2 ⊢
        clear hL O13
        generalize w12.alloc (.cells #[.slice A12 ks.length c12] 43) = w13 at *
        obtain ⟨own13, ho13⟩ : ∃ own13, own13 = upd own11 w11.heap.size 0 := ⟨_, rfl⟩
        rw [← ho13] at HS13
        have PC := pages_c HS13.out
        rw [HKS.out.symm] at PC
        have PCH := Lib.hid PC
        have OW13 := Lib.hid (show ∀ b, w11.heap.size ≤ b → own13 b = 0 from fun b hb => by rw [ho13]; exact upd_ge hb)
        clear PC ho13 B12 RW12
        gi_wp2_with (first
          | (refine ⟨trivial, ?_⟩; gi_at_call 18; refine (callsIn_wide.2 PCH.out).mono ?_; rintro e w14 ⟨Bp, v14, rfl, l14, k14, r14, b14⟩; have BL14 := Lib.hid l14; have BK14 := Lib.hid k14; have R14 := Lib.hid r14; have B14 := Lib.hid b14; have R11b := Kd.R_reads' (Kd.R_below R11.out (B13.out.trans (b14.mono B13.out.size))); have SAH := Lib.hid (same_self A11 Ad c11 cd data w14 R11b.2.2 R11b.2.1 (Kd.C_below HDA.out (B013.out.trans (b14.mono B013.out.size))) hdc (by omega)); clear l14 k14 r14 b14 PCH R11b)
          | (refine ⟨trivial, ?_⟩; gi_at_call 14; refine (callsIn_wide.2 SAH.out).mono ?_; rintro e w15 ⟨rfl, b15⟩; have B15 := Lib.hid b15; have DR := Lib.hid (drop_c (HS13.out.below (B14.out.trans (b15.mono B14.out.size)) 0) i); clear b15 SAH)
          | (refine ⟨trivial, ?_⟩; gi_at_call 15; refine (callsIn_wide.2 DR.out).mono ?_; rintro e w16 ⟨rfl, _, o16⟩; have O16 := Lib.hid o16; clear o16 DR)
          | fail)
        have B1116 := Lib.hid (show Below wA.heap.size wA w16 from by
          have h1 := B013.out.trans ((B14.out.trans (B15.out.mono B14.out.size)).mono B013.out.size)
          have h2 := (HS13.out.below (B14.out.trans (B15.out.mono B14.out.size)) 0)
          exact h1.trans (h2.own0 (O16.out.mono (fun k _ h => .inr h))))
        have B1315 := Lib.hid (B14.out.trans (B15.out.mono B14.out.size))
        have HT := Lib.hid (show ∀ b, (b < wA.heap.size ∨ w11.heap.size ≤ b) → ¬ upd own13 w13.heap.size 0 b = 3 from fun b hb h => by
          by_cases h1 : b < w13.heap.size
          · rw [upd_lt h1] at h
            rcases hb with hb | hb
            · have := HS13.out.lo b (by rw [h]; decide); omega
            · rw [OW13.out b hb] at h; cases h
          · rw [upd_ge (by omega)] at h; cases h)
        have B015 := Lib.hid (B013.out.trans (B1315.out.mono B013.out.size))
        have z1113 := B13.out.size
        have KP := Lib.hid (show Kp1 w w16 L Bp cut A12 c12 v14 ks from by
          have hw1 := X1.out.lt
          have hw2 := X2.out.lt
          have hz := Nat.le_trans B1315.out.size O16.out.size
          have hz1 := B1315.out.size
          have hz14 := B14.out.size
          refine ⟨(X1.out.below B015.out hw1).keep O16.out (HT.out _ (.inl hw1)), (X2.out.below B015.out hw2).keep O16.out (HT.out _ (.inl hw2)), (WB13.out.below B1315.out WB13.out.lt).keep O16.out (HT.out _ (.inr ZL2.out)), ?_, (BK14.out.below B15.out BK14.out.lt).keep O16.out (HT.out _ (.inr (by have := BL14.out; omega))), ?_, BA.out.trans (B1116.out.mono BA.out.size)⟩
          · exact ((R13.out.keep (Only.of_below B1315.out (fun _ => False)) (fun _ _ h => h)).keep O16.out (fun b hb => HT.out b (.inr hb))).mono (fun b hb _ => hb)
          · exact ((R14.out.keep (Only.of_below B15.out (fun _ => False)) (fun _ _ h => h)).keep O16.out (fun b hb => HT.out b (.inr (by omega)))).mono (fun b hb _ => hb))
        clear HS13 O16 B14 B15 B13 B013 BK14 R14 R13 WB13 R11 BA X1 X2 HT B015 B1315 z1113 B1116 OW13 ZL2 BL14 Z12 ZL
        refine wpIn_loop_rounds 3 ?_
        rw [roundsIn_succ]
        gi_wp2_with fail
        -- ROUNDS
        have BA1 := Lib.hid ((((Only.refl w16 (fun _ => False)).alloc (.cells #[.int .i64 0] 3))).below_all)
        have BN1 := Lib.hid (Blk.new w16 3 [.int .i64 0])
        have RA1 := Lib.hid ((KP.out.r14).keep ((Only.refl w16 (fun _ => False)).alloc (.cells #[.int .i64 0] 3)) (fun _ _ h => h))
        have RQ1 := Lib.hid ((KP.out.r12).keep ((Only.refl w16 (fun _ => False)).alloc (.cells #[.int .i64 0] 3)) (fun _ _ h => h))
        have KA1 := Lib.hid (KP.out.below BA1.out)
        have ZA1 := Lib.hid (show (w16.alloc (.cells #[.int .i64 0] 3)).heap.size = w16.heap.size + 1 by simp)
        have BI1 := Lib.hid (show Bp < w16.heap.size from KP.out.itb.lt)
        have LL1 := Lib.hid (show L < w16.heap.size from KP.out.wan.lt)
        have CC1 := Lib.hid (show w.heap.size + 1 < w16.heap.size from KP.out.res.lt)
        obtain ⟨Ln1, hLn1⟩ : ∃ Ln1, Ln1 = w16.heap.size := ⟨_, rfl⟩
        rw [← hLn1] at BN1 RA1 ZA1 BI1 LL1 CC1 RQ1 ⊢
        have HLN1 := Lib.hid hLn1
        clear hLn1
        generalize w16.alloc (.cells #[.int .i64 0] 3) = wa1 at *
        obtain ⟨b1, hbl1, hbo1, hseq1⟩ := values_stops (fun x : Int => x) 8 (by omega) Bp v14 ks wa1 (fun k => k < Ln1) KA1.out.itb (by rw [List.map_id']; exact RA1.out)
        have hb1 : b1 < Ln1 := by have := BI1.out; rcases hbo1 with h | h <;> omega
        have hln1 : Ln1 < wa1.heap.size := by have := ZA1.out; omega
        refine wpIn_rangeFunc_ownF (α := Int) rfl (by omega) (gf := 56) (lb := #[.pointer (some ⟨Bp, 0, none⟩)]) rfl trivial (enters_of Try.func56 (by kernel_rfl) rfl)
          (encs := fun (x : Int) => #[.int .i64 x]) (Kp := fun X Y => Y.heap[b1]? = X.heap[b1]?) (S := fun ys => ys = ks) (Sp := fun pre => pre <+: ks) (N := ks.length) (w0 := wa1) hseq1
          (fun h1 h2 => h2.trans h1) (fun W l o o' hl ho _ _ => by
            have hg := grownBy_putObj' W l o'
            exact hg.block b1 (by have := (Array.getElem?_eq_some_iff.1 ho).1; omega) (fun e => by injection e with e; omega)) (Below.refl _ _) (fun _ => rfl)
          (fun (pre : List Int) (W : World) => RI wa1 Ln1 pre.length W) (fun c pre W => (c = .exit 4 ∧ (pre.length : Int) = cut ∧ RI wa1 Ln1 pre.length W) ∨ (c = .ret ∧ ¬ pre <+: ks))
          (fun pre W W' row hI hg hr => RI.abides hI hln1 hg hr) (fun c pre W W' row h hg hr => h.imp (fun h => ⟨h.1, h.2.1, RI.abides h.2.2 hln1 hg hr⟩) id)
          ⟨Only.refl _ _, BN1.out⟩ ?frame1 ?assign1 ?body1 ?done1 ?stop1
        case assign1 =>
          intro l x W K hK
          gi_wp2
          exact hK
        case body1 =>
          intro l pre x W hI hlen
          try dsimp only
          obtain ⟨m, hm⟩ : ∃ m, m = pre.length := ⟨_, rfl⟩
          rw [← hm] at hI hlen
          have HM := Lib.hid hm
          have HI := Lib.hid hI
          obtain ⟨A', c', hv, _, hC, _⟩ := ((RQ1.out).keep HI.out.1 (fun b hb e => by omega)).reads
          injection hv with e1 e2 e3
          subst e1 e3
          obtain ⟨ad, ead, ck⟩ := int_at hC m hlen
          subst ead
          clear hC e2
          have fn := HI.out.2.frozen 0
          have cn := HI.out.2.cell_at 0 _ rfl
          have far : ∀ k, k < Ln1 → ¬ k = Ln1 := fun k h e => by omega
          have cw := (KA1.out.wan.keep HI.out.1 (far _ LL1.out)).cell_at 0 _ rfl
          have ccut := (KA1.out.cut.keep HI.out.1 (far _ (by have := CC1.out; omega))).cell_at 0 _ rfl
          have fr := (KA1.out.res.keep HI.out.1 (far _ CC1.out)).frozen 0
          have cr := (KA1.out.res.keep HI.out.1 (far _ CC1.out)).cell_at 0 _ rfl
          have ne1 : ¬ Ln1 = w.heap.size := by have := CC1.out; omega
          have ne2 : ¬ w.heap.size = Ln1 := by have := CC1.out; omega
          obtain ⟨a, ha⟩ : ∃ a, a = ks[m] := ⟨_, rfl⟩
          rw [← ha] at ck
          have hmi : (m : Int) < (ks.length : Int) := by omega
          have hm0 : (0 : Int) ≤ (m : Int) := by omega
          have hmm : (m : Int) ≤ 728 := by omega
          have HA := Lib.hid ha
          have STP := Lib.hid (HI.out.step)
          rw [show (((m + 1 : Nat)) : Int) = (m : Int) + 1 by omega] at STP
          clear hI hm ha far
          by_cases hx : x = a
          · have t1 : (x == a) = true := beq_iff_eq.mpr hx
            have t2 : (x != a) = false := bne_eq_false_iff_eq.mpr hx
            clear hx
            by_cases hc : (m : Int) + 1 = cut
            · have t3 : ((m : Int) + 1 == cut) = true := beq_iff_eq.mpr hc
              have HC := Lib.hid hc
              clear hc
              gi_wp2_with fail
              exact ⟨KeepsOthers.setCell _ _ _, .inl ⟨rfl, by rw [List.length_append, ← HM.out]; exact HC.out, by rw [List.length_append, ← HM.out]; exact STP.out⟩⟩
            · have t3 : ((m : Int) + 1 == cut) = false := beq_eq_false_iff_ne.mpr hc
              clear hc
              gi_wp2_with fail
              exact ⟨KeepsOthers.setCell _ _ _, Below.heap_setCell _ _ _ _ (by show b1 ≠ Ln1; omega), by show RI wa1 Ln1 (pre ++ [x]).length _; rw [List.length_append, ← HM.out]; exact STP.out⟩
          · have t1 : (x == a) = false := beq_eq_false_iff_ne.mpr hx
            have t2 : (x != a) = true := bne_iff_ne.mpr hx
            have HX := Lib.hid (show ¬ (pre ++ [x]) <+: ks from fun ⟨t, ht⟩ => hx (by
              have h1 : ks[m]? = some x := by rw [← ht, HM.out]; simp
              rw [List.getElem?_eq_getElem hlen, ← HA.out] at h1
              injection h1 with h1; exact h1.symm))
            clear hx
            gi_wp2_with fail
            exact ⟨KeepsOthers.setCell _ _ _, .inr ⟨rfl, HX.out⟩⟩
        case done1 =>
          rintro D1d xs1d W1d hD1d hxs1d hI1d hK1d
          rw [hxs1d] at hI1d
          obtain ⟨m1d, hm1d⟩ : ∃ m, m = ks.length := ⟨_, rfl⟩
          rw [← hm1d] at hI1d
          have hmm1d : m1d = ks.length := hm1d
          have BE1d := Lib.hid (show Below w16.heap.size w16 W1d from ((Only.of_below BA1.out (fun b => b = Ln1)).step hI1d.1 (fun _ _ h => h)).below (Nat.le_refl _) (fun b hb e => by have := HLN1.out; omega))
          have KQ1d := Lib.hid (KP.out.below BE1d.out)
          have HK1d := Lib.hid hK1d
          have cn := hI1d.2.cell_at 0 _ rfl
          have cw := KQ1d.out.wan.cell_at 0 _ rfl
          have ccut := KQ1d.out.cut.cell_at 0 _ rfl
          have t1 : ((m1d : Int) == ((ks.length : Nat) : Int)) = true := beq_iff_eq.mpr (by omega)
          have t2 : ((m1d : Int) != ((ks.length : Nat) : Int)) = false := bne_eq_false_iff_eq.mpr (by omega)
          clear hK1d hm1d hseq1 hbl1 hbo1 hmm1d hxs1d xs1d
          gi_wp2_with fail
          rw [roundsIn_succ]
          gi_wp2_with fail
          have BA2 := Lib.hid ((((Only.refl W1d (fun _ => False)).alloc (.cells #[.int .i64 0] 3))).below_all)
          have BN2 := Lib.hid (Blk.new W1d 3 [.int .i64 0])
          have RA2 := Lib.hid ((KQ1d.out.r14).keep ((Only.refl W1d (fun _ => False)).alloc (.cells #[.int .i64 0] 3)) (fun _ _ h => h))
          have RQ2 := Lib.hid ((KQ1d.out.r12).keep ((Only.refl W1d (fun _ => False)).alloc (.cells #[.int .i64 0] 3)) (fun _ _ h => h))
          have KA2 := Lib.hid (KQ1d.out.below BA2.out)
          have ZA2 := Lib.hid (show (W1d.alloc (.cells #[.int .i64 0] 3)).heap.size = W1d.heap.size + 1 by simp)
          have BI2 := Lib.hid (show Bp < W1d.heap.size from KQ1d.out.itb.lt)
          have LL2 := Lib.hid (show L < W1d.heap.size from KQ1d.out.wan.lt)
          have CC2 := Lib.hid (show w.heap.size + 1 < W1d.heap.size from KQ1d.out.res.lt)
          obtain ⟨Ln2, hLn2⟩ : ∃ Ln2, Ln2 = W1d.heap.size := ⟨_, rfl⟩
          rw [← hLn2] at BN2 RA2 ZA2 BI2 LL2 CC2 RQ2 ⊢
          have HLN2 := Lib.hid hLn2
          clear hLn2
          generalize W1d.alloc (.cells #[.int .i64 0] 3) = wa2 at *
          obtain ⟨b2, hbl2, hbo2, hseq2⟩ := values_stops (fun x : Int => x) 8 (by omega) Bp v14 ks wa2 (fun k => k < Ln2) KA2.out.itb (by rw [List.map_id']; exact RA2.out)
          have hb2 : b2 < Ln2 := by have := BI2.out; rcases hbo2 with h | h <;> omega
          have hln2 : Ln2 < wa2.heap.size := by have := ZA2.out; omega
          refine wpIn_rangeFunc_ownF (α := Int) rfl (by omega) (gf := 56) (lb := #[.pointer (some ⟨Bp, 0, none⟩)]) rfl trivial (enters_of Try.func56 (by kernel_rfl) rfl)
            (encs := fun (x : Int) => #[.int .i64 x]) (Kp := fun X Y => Y.heap[b2]? = X.heap[b2]?) (S := fun ys => ys = ks) (Sp := fun pre => pre <+: ks) (N := ks.length) (w0 := wa2) hseq2
            (fun h1 h2 => h2.trans h1) (fun W l o o' hl ho _ _ => by
              have hg := grownBy_putObj' W l o'
              exact hg.block b2 (by have := (Array.getElem?_eq_some_iff.1 ho).1; omega) (fun e => by injection e with e; omega)) (Below.refl _ _) (fun _ => rfl)
            (fun (pre : List Int) (W : World) => RI wa2 Ln2 pre.length W) (fun c pre W => (c = .exit 4 ∧ (pre.length : Int) = cut ∧ RI wa2 Ln2 pre.length W) ∨ (c = .ret ∧ ¬ pre <+: ks))
            (fun pre W W' row hI hg hr => RI.abides hI hln2 hg hr) (fun c pre W W' row h hg hr => h.imp (fun h => ⟨h.1, h.2.1, RI.abides h.2.2 hln2 hg hr⟩) id)
            ⟨Only.refl _ _, BN2.out⟩ ?frame2 ?assign2 ?body2 ?done2 ?stop2
          case assign2 =>
            intro l x W K hK
            gi_wp2
            exact hK
          case body2 =>
            intro l pre x W hI hlen
            try dsimp only
            obtain ⟨m, hm⟩ : ∃ m, m = pre.length := ⟨_, rfl⟩
            rw [← hm] at hI hlen
            have HM := Lib.hid hm
            have HI := Lib.hid hI
            obtain ⟨A', c', hv, _, hC, _⟩ := ((RQ2.out).keep HI.out.1 (fun b hb e => by omega)).reads
            injection hv with e1 e2 e3
            subst e1 e3
            obtain ⟨ad, ead, ck⟩ := int_at hC m hlen
            subst ead
            clear hC e2
            have fn := HI.out.2.frozen 0
            have cn := HI.out.2.cell_at 0 _ rfl
            have far : ∀ k, k < Ln2 → ¬ k = Ln2 := fun k h e => by omega
            have cw := (KA2.out.wan.keep HI.out.1 (far _ LL2.out)).cell_at 0 _ rfl
            have ccut := (KA2.out.cut.keep HI.out.1 (far _ (by have := CC2.out; omega))).cell_at 0 _ rfl
            have fr := (KA2.out.res.keep HI.out.1 (far _ CC2.out)).frozen 0
            have cr := (KA2.out.res.keep HI.out.1 (far _ CC2.out)).cell_at 0 _ rfl
            have ne1 : ¬ Ln2 = w.heap.size := by have := CC2.out; omega
            have ne2 : ¬ w.heap.size = Ln2 := by have := CC2.out; omega
            obtain ⟨a, ha⟩ : ∃ a, a = ks[m] := ⟨_, rfl⟩
            rw [← ha] at ck
            have hmi : (m : Int) < (ks.length : Int) := by omega
            have hm0 : (0 : Int) ≤ (m : Int) := by omega
            have hmm : (m : Int) ≤ 728 := by omega
            have HA := Lib.hid ha
            have STP := Lib.hid (HI.out.step)
            rw [show (((m + 1 : Nat)) : Int) = (m : Int) + 1 by omega] at STP
            clear hI hm ha far
            by_cases hx : x = a
            · have t1 : (x == a) = true := beq_iff_eq.mpr hx
              have t2 : (x != a) = false := bne_eq_false_iff_eq.mpr hx
              clear hx
              by_cases hc : (m : Int) + 1 = cut
              · have t3 : ((m : Int) + 1 == cut) = true := beq_iff_eq.mpr hc
                have HC := Lib.hid hc
                clear hc
                gi_wp2_with fail
                exact ⟨KeepsOthers.setCell _ _ _, .inl ⟨rfl, by rw [List.length_append, ← HM.out]; exact HC.out, by rw [List.length_append, ← HM.out]; exact STP.out⟩⟩
              · have t3 : ((m : Int) + 1 == cut) = false := beq_eq_false_iff_ne.mpr hc
                clear hc
                gi_wp2_with fail
                exact ⟨KeepsOthers.setCell _ _ _, Below.heap_setCell _ _ _ _ (by show b2 ≠ Ln2; omega), by show RI wa2 Ln2 (pre ++ [x]).length _; rw [List.length_append, ← HM.out]; exact STP.out⟩
            · have t1 : (x == a) = false := beq_eq_false_iff_ne.mpr hx
              have t2 : (x != a) = true := bne_iff_ne.mpr hx
              have HX := Lib.hid (show ¬ (pre ++ [x]) <+: ks from fun ⟨t, ht⟩ => hx (by
                have h1 : ks[m]? = some x := by rw [← ht, HM.out]; simp
                rw [List.getElem?_eq_getElem hlen, ← HA.out] at h1
                injection h1 with h1; exact h1.symm))
              clear hx
              gi_wp2_with fail
              exact ⟨KeepsOthers.setCell _ _ _, .inr ⟨rfl, HX.out⟩⟩
          case done2 =>
            rintro D2d xs2d W2d hD2d hxs2d hI2d hK2d
            rw [hxs2d] at hI2d
            obtain ⟨m2d, hm2d⟩ : ∃ m, m = ks.length := ⟨_, rfl⟩
            rw [← hm2d] at hI2d
            have hmm2d : m2d = ks.length := hm2d
            have BE2d := Lib.hid (show Below W1d.heap.size W1d W2d from ((Only.of_below BA2.out (fun b => b = Ln2)).step hI2d.1 (fun _ _ h => h)).below (Nat.le_refl _) (fun b hb e => by have := HLN2.out; omega))
            have KQ2d := Lib.hid (KQ1d.out.below BE2d.out)
            have HK2d := Lib.hid hK2d
            have cn := hI2d.2.cell_at 0 _ rfl
            have cw := KQ2d.out.wan.cell_at 0 _ rfl
            have ccut := KQ2d.out.cut.cell_at 0 _ rfl
            have HK1d2d := Lib.hid (show W2d.heap[D1d]? = some (.deferred (some [])) from (BE2d.out.block D1d (Array.getElem?_eq_some_iff.1 HK1d.out).1).trans HK1d.out)
            have t1 : ((m2d : Int) == ((ks.length : Nat) : Int)) = true := beq_iff_eq.mpr (by omega)
            have t2 : ((m2d : Int) != ((ks.length : Nat) : Int)) = false := bne_eq_false_iff_eq.mpr (by omega)
            clear hK2d hm2d hseq2 hbl2 hbo2 hmm2d hxs2d xs2d
            gi_wp2_with fail
            rw [roundsIn_succ]
            have fr := KQ2d.out.res.frozen 0
            have cr := KQ2d.out.res.cell_at 0 _ rfl
            gi_wp2_with fail
            have hlt12 := (Array.getElem?_eq_some_iff.1 HK1d.out).1
            have z2 := ZA2.out; have ln2 := HLN2.out; have z1 := ZA1.out; have ln1 := HLN1.out
            have bz1 := KP.out.bel.size; have bz2 := KQ1d.out.bel.size
            exact keeps_end KQ2d.out HK1d2d.out HK2d.out (by omega) (by omega) (by omega) _ rfl
          case stop2 =>
            rintro D2s c2s pre2s W2s hD2s hP2s hX2s hK2s
            rcases hX2s with ⟨rfl, hC2s, hI2s⟩ | ⟨rfl, hn⟩
            case inr => exact absurd hP2s hn
            have hml2s : pre2s.length ≤ 728 := by have := hP2s.length_le; omega
            obtain ⟨m2s, hm2s⟩ : ∃ m, m = pre2s.length := ⟨_, rfl⟩
            rw [← hm2s] at hI2s hC2s hml2s
            have BE2s := Lib.hid (show Below W1d.heap.size W1d W2s from ((Only.of_below BA2.out (fun b => b = Ln2)).step hI2s.1 (fun _ _ h => h)).below (Nat.le_refl _) (fun b hb e => by have := HLN2.out; omega))
            have KQ2s := Lib.hid (KQ1d.out.below BE2s.out)
            have HK2s := Lib.hid hK2s
            have cn := hI2s.2.cell_at 0 _ rfl
            have cw := KQ2s.out.wan.cell_at 0 _ rfl
            have ccut := KQ2s.out.cut.cell_at 0 _ rfl
            have HK1d2s := Lib.hid (show W2s.heap[D1d]? = some (.deferred (some [])) from (BE2s.out.block D1d (Array.getElem?_eq_some_iff.1 HK1d.out).1).trans HK1d.out)
            have t3 : ((m2s : Int) == cut) = true := beq_iff_eq.mpr hC2s
            have t4 : ((m2s : Int) != cut) = false := bne_eq_false_iff_eq.mpr hC2s
            clear hK2s hm2s hseq2 hbl2 hbo2 hC2s
            by_cases hl : (m2s : Int) = ((ks.length : Nat) : Int)
            · have t1 : ((m2s : Int) == ((ks.length : Nat) : Int)) = true := beq_iff_eq.mpr hl
              have t2 : ((m2s : Int) != ((ks.length : Nat) : Int)) = false := bne_eq_false_iff_eq.mpr hl
              clear hl
              gi_wp2_with fail
              rw [roundsIn_succ]
              have fr := KQ2s.out.res.frozen 0
              have cr := KQ2s.out.res.cell_at 0 _ rfl
              gi_wp2_with fail
              have hlt12 := (Array.getElem?_eq_some_iff.1 HK1d.out).1
              have z2 := ZA2.out; have ln2 := HLN2.out; have z1 := ZA1.out; have ln1 := HLN1.out
              have bz1 := KP.out.bel.size; have bz2 := KQ1d.out.bel.size
              exact keeps_end KQ2s.out HK1d2s.out HK2s.out (by omega) (by omega) (by omega) _ rfl
            · have t1 : ((m2s : Int) == ((ks.length : Nat) : Int)) = false := beq_eq_false_iff_ne.mpr hl
              have t2 : ((m2s : Int) != ((ks.length : Nat) : Int)) = true := bne_iff_ne.mpr hl
              clear hl
              gi_wp2_with fail
              rw [roundsIn_succ]
              have fr := KQ2s.out.res.frozen 0
              have cr := KQ2s.out.res.cell_at 0 _ rfl
              gi_wp2_with fail
              have hlt12 := (Array.getElem?_eq_some_iff.1 HK1d.out).1
              have z2 := ZA2.out; have ln2 := HLN2.out; have z1 := ZA1.out; have ln1 := HLN1.out
              have bz1 := KP.out.bel.size; have bz2 := KQ1d.out.bel.size
              exact keeps_end KQ2s.out HK1d2s.out HK2s.out (by omega) (by omega) (by omega) _ rfl
        case stop1 =>
          rintro D1s c1s pre1s W1s hD1s hP1s hX1s hK1s
          rcases hX1s with ⟨rfl, hC1s, hI1s⟩ | ⟨rfl, hn⟩
          case inr => exact absurd hP1s hn
          have hml1s : pre1s.length ≤ 728 := by have := hP1s.length_le; omega
          obtain ⟨m1s, hm1s⟩ : ∃ m, m = pre1s.length := ⟨_, rfl⟩
          rw [← hm1s] at hI1s hC1s hml1s
          have BE1s := Lib.hid (show Below w16.heap.size w16 W1s from ((Only.of_below BA1.out (fun b => b = Ln1)).step hI1s.1 (fun _ _ h => h)).below (Nat.le_refl _) (fun b hb e => by have := HLN1.out; omega))
          have KQ1s := Lib.hid (KP.out.below BE1s.out)
          have HK1s := Lib.hid hK1s
          have cn := hI1s.2.cell_at 0 _ rfl
          have cw := KQ1s.out.wan.cell_at 0 _ rfl
          have ccut := KQ1s.out.cut.cell_at 0 _ rfl
          have t3 : ((m1s : Int) == cut) = true := beq_iff_eq.mpr hC1s
          have t4 : ((m1s : Int) != cut) = false := bne_eq_false_iff_eq.mpr hC1s
          clear hK1s hm1s hseq1 hbl1 hbo1 hC1s
          by_cases hl : (m1s : Int) = ((ks.length : Nat) : Int)
          · have t1 : ((m1s : Int) == ((ks.length : Nat) : Int)) = true := beq_iff_eq.mpr hl
            have t2 : ((m1s : Int) != ((ks.length : Nat) : Int)) = false := bne_eq_false_iff_eq.mpr hl
            clear hl
            gi_wp2_with fail
            rw [roundsIn_succ]
            gi_wp2_with fail
            have BA2 := Lib.hid ((((Only.refl W1s (fun _ => False)).alloc (.cells #[.int .i64 0] 3))).below_all)
            have BN2 := Lib.hid (Blk.new W1s 3 [.int .i64 0])
            have RA2 := Lib.hid ((KQ1s.out.r14).keep ((Only.refl W1s (fun _ => False)).alloc (.cells #[.int .i64 0] 3)) (fun _ _ h => h))
            have RQ2 := Lib.hid ((KQ1s.out.r12).keep ((Only.refl W1s (fun _ => False)).alloc (.cells #[.int .i64 0] 3)) (fun _ _ h => h))
            have KA2 := Lib.hid (KQ1s.out.below BA2.out)
            have ZA2 := Lib.hid (show (W1s.alloc (.cells #[.int .i64 0] 3)).heap.size = W1s.heap.size + 1 by simp)
            have BI2 := Lib.hid (show Bp < W1s.heap.size from KQ1s.out.itb.lt)
            have LL2 := Lib.hid (show L < W1s.heap.size from KQ1s.out.wan.lt)
            have CC2 := Lib.hid (show w.heap.size + 1 < W1s.heap.size from KQ1s.out.res.lt)
            obtain ⟨Ln2, hLn2⟩ : ∃ Ln2, Ln2 = W1s.heap.size := ⟨_, rfl⟩
            rw [← hLn2] at BN2 RA2 ZA2 BI2 LL2 CC2 RQ2 ⊢
            have HLN2 := Lib.hid hLn2
            clear hLn2
            generalize W1s.alloc (.cells #[.int .i64 0] 3) = wa2 at *
            obtain ⟨b2, hbl2, hbo2, hseq2⟩ := values_stops (fun x : Int => x) 8 (by omega) Bp v14 ks wa2 (fun k => k < Ln2) KA2.out.itb (by rw [List.map_id']; exact RA2.out)
            have hb2 : b2 < Ln2 := by have := BI2.out; rcases hbo2 with h | h <;> omega
            have hln2 : Ln2 < wa2.heap.size := by have := ZA2.out; omega
            refine wpIn_rangeFunc_ownF (α := Int) rfl (by omega) (gf := 56) (lb := #[.pointer (some ⟨Bp, 0, none⟩)]) rfl trivial (enters_of Try.func56 (by kernel_rfl) rfl)
              (encs := fun (x : Int) => #[.int .i64 x]) (Kp := fun X Y => Y.heap[b2]? = X.heap[b2]?) (S := fun ys => ys = ks) (Sp := fun pre => pre <+: ks) (N := ks.length) (w0 := wa2) hseq2
              (fun h1 h2 => h2.trans h1) (fun W l o o' hl ho _ _ => by
                have hg := grownBy_putObj' W l o'
                exact hg.block b2 (by have := (Array.getElem?_eq_some_iff.1 ho).1; omega) (fun e => by injection e with e; omega)) (Below.refl _ _) (fun _ => rfl)
              (fun (pre : List Int) (W : World) => RI wa2 Ln2 pre.length W) (fun c pre W => (c = .exit 4 ∧ (pre.length : Int) = cut ∧ RI wa2 Ln2 pre.length W) ∨ (c = .ret ∧ ¬ pre <+: ks))
              (fun pre W W' row hI hg hr => RI.abides hI hln2 hg hr) (fun c pre W W' row h hg hr => h.imp (fun h => ⟨h.1, h.2.1, RI.abides h.2.2 hln2 hg hr⟩) id)
              ⟨Only.refl _ _, BN2.out⟩ ?frame3 ?assign3 ?body3 ?done3 ?stop3
            case assign3 =>
              intro l x W K hK
              gi_wp2
              exact hK
            case body3 =>
              intro l pre x W hI hlen
              try dsimp only
              obtain ⟨m, hm⟩ : ∃ m, m = pre.length := ⟨_, rfl⟩
              rw [← hm] at hI hlen
              have HM := Lib.hid hm
              have HI := Lib.hid hI
              obtain ⟨A', c', hv, _, hC, _⟩ := ((RQ2.out).keep HI.out.1 (fun b hb e => by omega)).reads
              injection hv with e1 e2 e3
              subst e1 e3
              obtain ⟨ad, ead, ck⟩ := int_at hC m hlen
              subst ead
              clear hC e2
              have fn := HI.out.2.frozen 0
              have cn := HI.out.2.cell_at 0 _ rfl
              have far : ∀ k, k < Ln2 → ¬ k = Ln2 := fun k h e => by omega
              have cw := (KA2.out.wan.keep HI.out.1 (far _ LL2.out)).cell_at 0 _ rfl
              have ccut := (KA2.out.cut.keep HI.out.1 (far _ (by have := CC2.out; omega))).cell_at 0 _ rfl
              have fr := (KA2.out.res.keep HI.out.1 (far _ CC2.out)).frozen 0
              have cr := (KA2.out.res.keep HI.out.1 (far _ CC2.out)).cell_at 0 _ rfl
              have ne1 : ¬ Ln2 = w.heap.size := by have := CC2.out; omega
              have ne2 : ¬ w.heap.size = Ln2 := by have := CC2.out; omega
              obtain ⟨a, ha⟩ : ∃ a, a = ks[m] := ⟨_, rfl⟩
              rw [← ha] at ck
              have hmi : (m : Int) < (ks.length : Int) := by omega
              have hm0 : (0 : Int) ≤ (m : Int) := by omega
              have hmm : (m : Int) ≤ 728 := by omega
              have HA := Lib.hid ha
              have STP := Lib.hid (HI.out.step)
              rw [show (((m + 1 : Nat)) : Int) = (m : Int) + 1 by omega] at STP
              clear hI hm ha far
              by_cases hx : x = a
              · have t1 : (x == a) = true := beq_iff_eq.mpr hx
                have t2 : (x != a) = false := bne_eq_false_iff_eq.mpr hx
                clear hx
                by_cases hc : (m : Int) + 1 = cut
                · have t3 : ((m : Int) + 1 == cut) = true := beq_iff_eq.mpr hc
                  have HC := Lib.hid hc
                  clear hc
                  gi_wp2_with fail
                  exact ⟨KeepsOthers.setCell _ _ _, .inl ⟨rfl, by rw [List.length_append, ← HM.out]; exact HC.out, by rw [List.length_append, ← HM.out]; exact STP.out⟩⟩
                · have t3 : ((m : Int) + 1 == cut) = false := beq_eq_false_iff_ne.mpr hc
                  clear hc
                  gi_wp2_with fail
                  exact ⟨KeepsOthers.setCell _ _ _, Below.heap_setCell _ _ _ _ (by show b2 ≠ Ln2; omega), by show RI wa2 Ln2 (pre ++ [x]).length _; rw [List.length_append, ← HM.out]; exact STP.out⟩
              · have t1 : (x == a) = false := beq_eq_false_iff_ne.mpr hx
                have t2 : (x != a) = true := bne_iff_ne.mpr hx
                have HX := Lib.hid (show ¬ (pre ++ [x]) <+: ks from fun ⟨t, ht⟩ => hx (by
                  have h1 : ks[m]? = some x := by rw [← ht, HM.out]; simp
                  rw [List.getElem?_eq_getElem hlen, ← HA.out] at h1
                  injection h1 with h1; exact h1.symm))
                clear hx
                gi_wp2_with fail
                exact ⟨KeepsOthers.setCell _ _ _, .inr ⟨rfl, HX.out⟩⟩
            case done3 =>
              rintro D2d xs2d W2d hD2d hxs2d hI2d hK2d
              rw [hxs2d] at hI2d
              obtain ⟨m2d, hm2d⟩ : ∃ m, m = ks.length := ⟨_, rfl⟩
              rw [← hm2d] at hI2d
              have hmm2d : m2d = ks.length := hm2d
              have BE2d := Lib.hid (show Below W1s.heap.size W1s W2d from ((Only.of_below BA2.out (fun b => b = Ln2)).step hI2d.1 (fun _ _ h => h)).below (Nat.le_refl _) (fun b hb e => by have := HLN2.out; omega))
              have KQ2d := Lib.hid (KQ1s.out.below BE2d.out)
              have HK2d := Lib.hid hK2d
              have cn := hI2d.2.cell_at 0 _ rfl
              have cw := KQ2d.out.wan.cell_at 0 _ rfl
              have ccut := KQ2d.out.cut.cell_at 0 _ rfl
              have HK1s2d := Lib.hid (show W2d.heap[D1s]? = some (.deferred (some [])) from (BE2d.out.block D1s (Array.getElem?_eq_some_iff.1 HK1s.out).1).trans HK1s.out)
              have t1 : ((m2d : Int) == ((ks.length : Nat) : Int)) = true := beq_iff_eq.mpr (by omega)
              have t2 : ((m2d : Int) != ((ks.length : Nat) : Int)) = false := bne_eq_false_iff_eq.mpr (by omega)
              clear hK2d hm2d hseq2 hbl2 hbo2 hmm2d hxs2d xs2d
              gi_wp2_with fail
              rw [roundsIn_succ]
              have fr := KQ2d.out.res.frozen 0
              have cr := KQ2d.out.res.cell_at 0 _ rfl
              gi_wp2_with fail
              have hlt12 := (Array.getElem?_eq_some_iff.1 HK1s.out).1
              have z2 := ZA2.out; have ln2 := HLN2.out; have z1 := ZA1.out; have ln1 := HLN1.out
              have bz1 := KP.out.bel.size; have bz2 := KQ1s.out.bel.size
              exact keeps_end KQ2d.out HK1s2d.out HK2d.out (by omega) (by omega) (by omega) _ rfl
            case stop3 =>
              rintro D2s c2s pre2s W2s hD2s hP2s hX2s hK2s
              rcases hX2s with ⟨rfl, hC2s, hI2s⟩ | ⟨rfl, hn⟩
              case inr => exact absurd hP2s hn
              have hml2s : pre2s.length ≤ 728 := by have := hP2s.length_le; omega
              obtain ⟨m2s, hm2s⟩ : ∃ m, m = pre2s.length := ⟨_, rfl⟩
              rw [← hm2s] at hI2s hC2s hml2s
              have BE2s := Lib.hid (show Below W1s.heap.size W1s W2s from ((Only.of_below BA2.out (fun b => b = Ln2)).step hI2s.1 (fun _ _ h => h)).below (Nat.le_refl _) (fun b hb e => by have := HLN2.out; omega))
              have KQ2s := Lib.hid (KQ1s.out.below BE2s.out)
              have HK2s := Lib.hid hK2s
              have cn := hI2s.2.cell_at 0 _ rfl
              have cw := KQ2s.out.wan.cell_at 0 _ rfl
              have ccut := KQ2s.out.cut.cell_at 0 _ rfl
              have HK1s2s := Lib.hid (show W2s.heap[D1s]? = some (.deferred (some [])) from (BE2s.out.block D1s (Array.getElem?_eq_some_iff.1 HK1s.out).1).trans HK1s.out)
              have t3 : ((m2s : Int) == cut) = true := beq_iff_eq.mpr hC2s
              have t4 : ((m2s : Int) != cut) = false := bne_eq_false_iff_eq.mpr hC2s
              clear hK2s hm2s hseq2 hbl2 hbo2 hC2s
              by_cases hl : (m2s : Int) = ((ks.length : Nat) : Int)
              · have t1 : ((m2s : Int) == ((ks.length : Nat) : Int)) = true := beq_iff_eq.mpr hl
                have t2 : ((m2s : Int) != ((ks.length : Nat) : Int)) = false := bne_eq_false_iff_eq.mpr hl
                clear hl
                gi_wp2_with fail
                rw [roundsIn_succ]
                have fr := KQ2s.out.res.frozen 0
                have cr := KQ2s.out.res.cell_at 0 _ rfl
                gi_wp2_with fail
                have hlt12 := (Array.getElem?_eq_some_iff.1 HK1s.out).1
                have z2 := ZA2.out; have ln2 := HLN2.out; have z1 := ZA1.out; have ln1 := HLN1.out
                have bz1 := KP.out.bel.size; have bz2 := KQ1s.out.bel.size
                exact keeps_end KQ2s.out HK1s2s.out HK2s.out (by omega) (by omega) (by omega) _ rfl
              · have t1 : ((m2s : Int) == ((ks.length : Nat) : Int)) = false := beq_eq_false_iff_ne.mpr hl
                have t2 : ((m2s : Int) != ((ks.length : Nat) : Int)) = true := bne_iff_ne.mpr hl
                clear hl
                gi_wp2_with fail
                rw [roundsIn_succ]
                have fr := KQ2s.out.res.frozen 0
                have cr := KQ2s.out.res.cell_at 0 _ rfl
                gi_wp2_with fail
                have hlt12 := (Array.getElem?_eq_some_iff.1 HK1s.out).1
                have z2 := ZA2.out; have ln2 := HLN2.out; have z1 := ZA1.out; have ln1 := HLN1.out
                have bz1 := KP.out.bel.size; have bz2 := KQ1s.out.bel.size
                exact keeps_end KQ2s.out HK1s2s.out HK2s.out (by omega) (by omega) (by omega) _ rfl
          · have t1 : ((m1s : Int) == ((ks.length : Nat) : Int)) = false := beq_eq_false_iff_ne.mpr hl
            have t2 : ((m1s : Int) != ((ks.length : Nat) : Int)) = true := bne_iff_ne.mpr hl
            clear hl
            gi_wp2_with fail
            rw [roundsIn_succ]
            gi_wp2_with fail
            have BA2 := Lib.hid ((((Only.refl W1s (fun _ => False)).alloc (.cells #[.int .i64 0] 3))).below_all)
            have BN2 := Lib.hid (Blk.new W1s 3 [.int .i64 0])
            have RA2 := Lib.hid ((KQ1s.out.r14).keep ((Only.refl W1s (fun _ => False)).alloc (.cells #[.int .i64 0] 3)) (fun _ _ h => h))
            have RQ2 := Lib.hid ((KQ1s.out.r12).keep ((Only.refl W1s (fun _ => False)).alloc (.cells #[.int .i64 0] 3)) (fun _ _ h => h))
            have KA2 := Lib.hid (KQ1s.out.below BA2.out)
            have ZA2 := Lib.hid (show (W1s.alloc (.cells #[.int .i64 0] 3)).heap.size = W1s.heap.size + 1 by simp)
            have BI2 := Lib.hid (show Bp < W1s.heap.size from KQ1s.out.itb.lt)
            have LL2 := Lib.hid (show L < W1s.heap.size from KQ1s.out.wan.lt)
            have CC2 := Lib.hid (show w.heap.size + 1 < W1s.heap.size from KQ1s.out.res.lt)
            obtain ⟨Ln2, hLn2⟩ : ∃ Ln2, Ln2 = W1s.heap.size := ⟨_, rfl⟩
            rw [← hLn2] at BN2 RA2 ZA2 BI2 LL2 CC2 RQ2 ⊢
            have HLN2 := Lib.hid hLn2
            clear hLn2
            generalize W1s.alloc (.cells #[.int .i64 0] 3) = wa2 at *
            obtain ⟨b2, hbl2, hbo2, hseq2⟩ := values_stops (fun x : Int => x) 8 (by omega) Bp v14 ks wa2 (fun k => k < Ln2) KA2.out.itb (by rw [List.map_id']; exact RA2.out)
            have hb2 : b2 < Ln2 := by have := BI2.out; rcases hbo2 with h | h <;> omega
            have hln2 : Ln2 < wa2.heap.size := by have := ZA2.out; omega
            refine wpIn_rangeFunc_ownF (α := Int) rfl (by omega) (gf := 56) (lb := #[.pointer (some ⟨Bp, 0, none⟩)]) rfl trivial (enters_of Try.func56 (by kernel_rfl) rfl)
              (encs := fun (x : Int) => #[.int .i64 x]) (Kp := fun X Y => Y.heap[b2]? = X.heap[b2]?) (S := fun ys => ys = ks) (Sp := fun pre => pre <+: ks) (N := ks.length) (w0 := wa2) hseq2
              (fun h1 h2 => h2.trans h1) (fun W l o o' hl ho _ _ => by
                have hg := grownBy_putObj' W l o'
                exact hg.block b2 (by have := (Array.getElem?_eq_some_iff.1 ho).1; omega) (fun e => by injection e with e; omega)) (Below.refl _ _) (fun _ => rfl)
              (fun (pre : List Int) (W : World) => RI wa2 Ln2 pre.length W) (fun c pre W => (c = .exit 4 ∧ (pre.length : Int) = cut ∧ RI wa2 Ln2 pre.length W) ∨ (c = .ret ∧ ¬ pre <+: ks))
              (fun pre W W' row hI hg hr => RI.abides hI hln2 hg hr) (fun c pre W W' row h hg hr => h.imp (fun h => ⟨h.1, h.2.1, RI.abides h.2.2 hln2 hg hr⟩) id)
              ⟨Only.refl _ _, BN2.out⟩ ?frame4 ?assign4 ?body4 ?done4 ?stop4
            case assign4 =>
              intro l x W K hK
              gi_wp2
              exact hK
            case body4 =>
              intro l pre x W hI hlen
              try dsimp only
              obtain ⟨m, hm⟩ : ∃ m, m = pre.length := ⟨_, rfl⟩
              rw [← hm] at hI hlen
              have HM := Lib.hid hm
              have HI := Lib.hid hI
              obtain ⟨A', c', hv, _, hC, _⟩ := ((RQ2.out).keep HI.out.1 (fun b hb e => by omega)).reads
              injection hv with e1 e2 e3
              subst e1 e3
              obtain ⟨ad, ead, ck⟩ := int_at hC m hlen
              subst ead
              clear hC e2
              have fn := HI.out.2.frozen 0
              have cn := HI.out.2.cell_at 0 _ rfl
              have far : ∀ k, k < Ln2 → ¬ k = Ln2 := fun k h e => by omega
              have cw := (KA2.out.wan.keep HI.out.1 (far _ LL2.out)).cell_at 0 _ rfl
              have ccut := (KA2.out.cut.keep HI.out.1 (far _ (by have := CC2.out; omega))).cell_at 0 _ rfl
              have fr := (KA2.out.res.keep HI.out.1 (far _ CC2.out)).frozen 0
              have cr := (KA2.out.res.keep HI.out.1 (far _ CC2.out)).cell_at 0 _ rfl
              have ne1 : ¬ Ln2 = w.heap.size := by have := CC2.out; omega
              have ne2 : ¬ w.heap.size = Ln2 := by have := CC2.out; omega
              obtain ⟨a, ha⟩ : ∃ a, a = ks[m] := ⟨_, rfl⟩
              rw [← ha] at ck
              have hmi : (m : Int) < (ks.length : Int) := by omega
              have hm0 : (0 : Int) ≤ (m : Int) := by omega
              have hmm : (m : Int) ≤ 728 := by omega
              have HA := Lib.hid ha
              have STP := Lib.hid (HI.out.step)
              rw [show (((m + 1 : Nat)) : Int) = (m : Int) + 1 by omega] at STP
              clear hI hm ha far
              by_cases hx : x = a
              · have t1 : (x == a) = true := beq_iff_eq.mpr hx
                have t2 : (x != a) = false := bne_eq_false_iff_eq.mpr hx
                clear hx
                by_cases hc : (m : Int) + 1 = cut
                · have t3 : ((m : Int) + 1 == cut) = true := beq_iff_eq.mpr hc
                  have HC := Lib.hid hc
                  clear hc
                  gi_wp2_with fail
                  exact ⟨KeepsOthers.setCell _ _ _, .inl ⟨rfl, by rw [List.length_append, ← HM.out]; exact HC.out, by rw [List.length_append, ← HM.out]; exact STP.out⟩⟩
                · have t3 : ((m : Int) + 1 == cut) = false := beq_eq_false_iff_ne.mpr hc
                  clear hc
                  gi_wp2_with fail
                  exact ⟨KeepsOthers.setCell _ _ _, Below.heap_setCell _ _ _ _ (by show b2 ≠ Ln2; omega), by show RI wa2 Ln2 (pre ++ [x]).length _; rw [List.length_append, ← HM.out]; exact STP.out⟩
              · have t1 : (x == a) = false := beq_eq_false_iff_ne.mpr hx
                have t2 : (x != a) = true := bne_iff_ne.mpr hx
                have HX := Lib.hid (show ¬ (pre ++ [x]) <+: ks from fun ⟨t, ht⟩ => hx (by
                  have h1 : ks[m]? = some x := by rw [← ht, HM.out]; simp
                  rw [List.getElem?_eq_getElem hlen, ← HA.out] at h1
                  injection h1 with h1; exact h1.symm))
                clear hx
                gi_wp2_with fail
                exact ⟨KeepsOthers.setCell _ _ _, .inr ⟨rfl, HX.out⟩⟩
            case done4 =>
              rintro D2d xs2d W2d hD2d hxs2d hI2d hK2d
              rw [hxs2d] at hI2d
              obtain ⟨m2d, hm2d⟩ : ∃ m, m = ks.length := ⟨_, rfl⟩
              rw [← hm2d] at hI2d
              have hmm2d : m2d = ks.length := hm2d
              have BE2d := Lib.hid (show Below W1s.heap.size W1s W2d from ((Only.of_below BA2.out (fun b => b = Ln2)).step hI2d.1 (fun _ _ h => h)).below (Nat.le_refl _) (fun b hb e => by have := HLN2.out; omega))
              have KQ2d := Lib.hid (KQ1s.out.below BE2d.out)
              have HK2d := Lib.hid hK2d
              have cn := hI2d.2.cell_at 0 _ rfl
              have cw := KQ2d.out.wan.cell_at 0 _ rfl
              have ccut := KQ2d.out.cut.cell_at 0 _ rfl
              have HK1s2d := Lib.hid (show W2d.heap[D1s]? = some (.deferred (some [])) from (BE2d.out.block D1s (Array.getElem?_eq_some_iff.1 HK1s.out).1).trans HK1s.out)
              have t1 : ((m2d : Int) == ((ks.length : Nat) : Int)) = true := beq_iff_eq.mpr (by omega)
              have t2 : ((m2d : Int) != ((ks.length : Nat) : Int)) = false := bne_eq_false_iff_eq.mpr (by omega)
              clear hK2d hm2d hseq2 hbl2 hbo2 hmm2d hxs2d xs2d
              gi_wp2_with fail
              rw [roundsIn_succ]
              have fr := KQ2d.out.res.frozen 0
              have cr := KQ2d.out.res.cell_at 0 _ rfl
              gi_wp2_with fail
              have hlt12 := (Array.getElem?_eq_some_iff.1 HK1s.out).1
              have z2 := ZA2.out; have ln2 := HLN2.out; have z1 := ZA1.out; have ln1 := HLN1.out
              have bz1 := KP.out.bel.size; have bz2 := KQ1s.out.bel.size
              exact keeps_end KQ2d.out HK1s2d.out HK2d.out (by omega) (by omega) (by omega) _ rfl
            case stop4 =>
              rintro D2s c2s pre2s W2s hD2s hP2s hX2s hK2s
              rcases hX2s with ⟨rfl, hC2s, hI2s⟩ | ⟨rfl, hn⟩
              case inr => exact absurd hP2s hn
              have hml2s : pre2s.length ≤ 728 := by have := hP2s.length_le; omega
              obtain ⟨m2s, hm2s⟩ : ∃ m, m = pre2s.length := ⟨_, rfl⟩
              rw [← hm2s] at hI2s hC2s hml2s
              have BE2s := Lib.hid (show Below W1s.heap.size W1s W2s from ((Only.of_below BA2.out (fun b => b = Ln2)).step hI2s.1 (fun _ _ h => h)).below (Nat.le_refl _) (fun b hb e => by have := HLN2.out; omega))
              have KQ2s := Lib.hid (KQ1s.out.below BE2s.out)
              have HK2s := Lib.hid hK2s
              have cn := hI2s.2.cell_at 0 _ rfl
              have cw := KQ2s.out.wan.cell_at 0 _ rfl
              have ccut := KQ2s.out.cut.cell_at 0 _ rfl
              have HK1s2s := Lib.hid (show W2s.heap[D1s]? = some (.deferred (some [])) from (BE2s.out.block D1s (Array.getElem?_eq_some_iff.1 HK1s.out).1).trans HK1s.out)
              have t3 : ((m2s : Int) == cut) = true := beq_iff_eq.mpr hC2s
              have t4 : ((m2s : Int) != cut) = false := bne_eq_false_iff_eq.mpr hC2s
              clear hK2s hm2s hseq2 hbl2 hbo2 hC2s
              by_cases hl : (m2s : Int) = ((ks.length : Nat) : Int)
              · have t1 : ((m2s : Int) == ((ks.length : Nat) : Int)) = true := beq_iff_eq.mpr hl
                have t2 : ((m2s : Int) != ((ks.length : Nat) : Int)) = false := bne_eq_false_iff_eq.mpr hl
                clear hl
                gi_wp2_with fail
                rw [roundsIn_succ]
                have fr := KQ2s.out.res.frozen 0
                have cr := KQ2s.out.res.cell_at 0 _ rfl
                gi_wp2_with fail
                have hlt12 := (Array.getElem?_eq_some_iff.1 HK1s.out).1
                have z2 := ZA2.out; have ln2 := HLN2.out; have z1 := ZA1.out; have ln1 := HLN1.out
                have bz1 := KP.out.bel.size; have bz2 := KQ1s.out.bel.size
                exact keeps_end KQ2s.out HK1s2s.out HK2s.out (by omega) (by omega) (by omega) _ rfl
              · have t1 : ((m2s : Int) == ((ks.length : Nat) : Int)) = false := beq_eq_false_iff_ne.mpr hl
                have t2 : ((m2s : Int) != ((ks.length : Nat) : Int)) = true := bne_iff_ne.mpr hl
                clear hl
                gi_wp2_with fail
                rw [roundsIn_succ]
                have fr := KQ2s.out.res.frozen 0
                have cr := KQ2s.out.res.cell_at 0 _ rfl
                gi_wp2_with fail
                have hlt12 := (Array.getElem?_eq_some_iff.1 HK1s.out).1
                have z2 := ZA2.out; have ln2 := HLN2.out; have z1 := ZA1.out; have ln1 := HLN1.out
                have bz1 := KP.out.bel.size; have bz2 := KQ1s.out.bel.size
                exact keeps_end KQ2s.out HK1s2s.out HK2s.out (by omega) (by omega) (by omega) _ rfl
end Go.Proofs.Ytochnokfcfmgnaa.St
end
