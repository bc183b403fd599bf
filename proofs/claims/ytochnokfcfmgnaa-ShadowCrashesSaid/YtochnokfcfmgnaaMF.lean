/- Texts merged: a section each. -/
import Derived.Test.YtochnokfcfmgnaaME
section
/- Seat F: the pages of a store, listed. -/
namespace Go.Proofs.Ytochnokfcfmgnaa.St
open Go Go.RowKit Go.Shelf Go.Proofs.Ytochnokfcfmgnaa.Mem Go.Proofs.YtochnokfcfmgnaaW.PrintWords Go.Proofs.Ytochnokfcfmgnaa.Dk Go.Maps Go.ChangeMaps Go.Proofs.Ytochnokfcfmgnaa.Sh Go.Proofs.Ytochnokfcfmgnaa.Sp
set_option linter.unusedVariables false
set_option linter.unusedSimpArgs false
attribute [local go_sem] Oper.semAt_some
set_option maxRecDepth 100000
set_option maxHeartbeats 4000000
/-- Between two rounds. -/
structure LIx (w : World) (n1 L : Nat) (fs : List Int) (fv : Value) (W : World) : Prop where
  b2 : Blk W w.heap.size 43 [.slice none 0 0]
  b3 : Blk W (w.heap.size + 1) 4 [.bool false]
  b5 : Blk W L 43 [fv]
  o7 : W.ownsRow n1 3 1 fv fs.length (fs.map (Value.int .i64))
  below : Below w.heap.size w W
  size : n1 ≤ W.heap.size
  two : w.heap.size + 2 ≤ L
  lt : L < n1
def LI (w : World) (n1 L : Nat) (fs : List Int) (W : World) : Prop := ∃ fv, LIx w n1 L fs fv W
theorem LI.abides {w W W' : World} {n1 L : Nat} {fs : List Int} {row : Option Nat} (h : LI w n1 L fs W) (hg : W.grownBy W' row) (hr : ∀ r, row = some r → n1 ≤ r ∧ ∃ o : Obj, W.heap[r]? = some o ∧ o.isCells = false) : LI w n1 L fs W' := by
  have key : ∀ (k : Nat) (cells : Array Value) (t : TypeId) (z : Nat × Nat), W.heap[k]? = some (.cells cells t z) → W'.heap[k]? = W.heap[k]? := fun k cells t z hk => by
    refine hg.block k (Array.getElem?_eq_some_iff.1 hk).1 (fun e => ?_)
    obtain ⟨_, o, ho, hc⟩ := hr k e.symm
    rw [hk] at ho
    injection ho with ho
    rw [← ho] at hc
    cases hc
  obtain ⟨fv, h⟩ := h
  have h1 := h.two
  have h2 := h.lt
  refine ⟨fv, (key _ _ _ _ h.b2).trans h.b2, (key _ _ _ _ h.b3).trans h.b3, (key _ _ _ _ h.b5).trans h.b5, own_of_block h.o7 (fun b hb => by obtain ⟨_, cells, hc⟩ := own_cells h.o7 hb; exact key _ _ _ _ hc), ?_, Nat.le_trans h.size hg.size, h.two, h.lt⟩
  exact h.below.trans ⟨hg.os, hg.tape, hg.output, hg.size, fun k hk => hg.block k (by have := h.below.size; omega) (fun e => by have := (hr k e.symm).1; omega)⟩
theorem LIx.fresh {w W w3 : World} {n1 L : Nat} {fv fv2 : Value} {fs : List Int} {q : Int} (h : LIx w n1 L fs fv W) (o : Obj) (hg : (W.alloc o).grownBy w3 fv.ownBlock) (ho : w3.ownsRow n1 3 1 fv2 (fs.length + 1) (fs.map (Value.int .i64) ++ [.int .i64 q])) :
    LIx w n1 L (fs ++ [q]) fv2 (w3.setCell ⟨L, 0, none⟩ fv2) ∧ KeepsOthers W (w3.setCell ⟨L, 0, none⟩ fv2) ∧ ∀ b, b ≠ L → b < n1 → (w3.setCell ⟨L, 0, none⟩ fv2).heap[b]? = W.heap[b]? := by
  have h1 := h.two
  have h2 := h.lt
  have hsz := h.size
  have hblk : ∀ k, k < W.heap.size → fv.ownBlock ≠ some k → w3.heap[k]? = W.heap[k]? := fun k hk hne => (hg.block k (by simp; omega) (fun e => hne e.symm)).trans (Below.heap_alloc W o k hk)
  have hlow : ∀ k, k < n1 → fv.ownBlock ≠ some k := fun k hk e => by have := (own_cells h.o7 e).1; omega
  have hfar : ∀ k, k ≠ L → (w3.setCell ⟨L, 0, none⟩ fv2).heap[k]? = w3.heap[k]? := fun k hk => Below.heap_setCell w3 ⟨L, 0, none⟩ fv2 k hk
  have key : ∀ k, k < n1 → w3.heap[k]? = W.heap[k]? := fun k hk => hblk k (by omega) (hlow k hk)
  have q2 := (show Blk w3 _ _ _ from (key _ (by omega)).trans h.b2).far (p := ⟨L, 0, none⟩) (by show w.heap.size ≠ L; omega) fv2
  have q3 := (show Blk w3 _ _ _ from (key _ (by omega)).trans h.b3).far (p := ⟨L, 0, none⟩) (by show w.heap.size + 1 ≠ L; omega) fv2
  have q5 := (show Blk w3 _ _ _ from (key _ (by omega)).trans h.b5).set_ 0 fv2
  have hs3 : W.heap.size ≤ w3.heap.size := Nat.le_trans (by simp) hg.size
  have hw : Below w.heap.size w w3 := h.below.trans ⟨hg.os, hg.tape, hg.output, hs3, fun k hk => key k (by omega)⟩
  refine ⟨⟨q2, q3, q5, ?_, hw.setCell (p := ⟨L, 0, none⟩) (by show w.heap.size ≤ L; omega) fv2, by simp; omega, h.two, h.lt⟩, ?_, fun b h1 h2 => (hfar b h1).trans (key b h2)⟩
  · have e1 : (fs ++ [q]).length = fs.length + 1 := by simp
    have e2 : (fs ++ [q]).map (Value.int .i64) = fs.map (Value.int .i64) ++ [.int .i64 q] := by simp
    rw [e1, e2]
    exact own_of_block ho (fun b hb => hfar b (by have := (own_cells ho hb).1; omega))
  · refine KeepsOthers.trans ⟨hs3, fun k o' ho' hc => ?_⟩ (KeepsOthers.setCell _ _ _)
    have hk := (Array.getElem?_eq_some_iff.1 ho').1
    rw [hblk k hk (fun e => by
      obtain ⟨_, cells, hc2⟩ := own_cells h.o7 e
      rw [ho'] at hc2
      injection hc2 with hc2
      rw [hc2] at hc
      cases hc)]
    exact ho'
theorem LIx.at5 {w W w3 : World} {n1 L : Nat} {fv : Value} {fs : List Int} (h : LIx w n1 L fs fv W) (o : Obj) (hg : (W.alloc o).grownBy w3 fv.ownBlock) : Blk w3 L 43 [fv] := by
  have h1 := h.lt
  have hsz := h.size
  exact (hg.block _ (by simp; omega) (fun e => by have := (own_cells h.o7 e.symm).1; omega)).trans ((Below.heap_alloc W o _ (by omega)).trans h.b5)
theorem listed_live {w : World} {own : Nat → Nat} {base g s : Nat} {S : SV} (h : St w own base g s S) :
    CallsIn Fence.wide 9 Try.prog 17 #[.pointer (some ⟨s, 0, none⟩)] w fun e w' => ∃ fv, e = .returned (.tuple #[fv, .bool true]) ∧ w'.ownsRow w.heap.size 3 1 fv (keysI S.now).length ((keysI S.now).map (Value.int .i64)) ∧ Below w.heap.size w w' := by
  have hfn := func_ne
  have hP : Hid (∀ W, Below w.heap.size w W → Calls Try.prog 18 #[.pointer (some ⟨s, 0, none⟩)] W fun e w' => ∃ B v, e = .returned (.func (.func 56) #[] #[.pointer (some ⟨B, 0, none⟩)]) ∧ W.heap.size ≤ B ∧ Blk w' B 43 [v] ∧ Row w' (fun k => W.heap.size ≤ k) .i64 v (keysI S.now) ∧ Below W.heap.size W w') := Lib.hid (fun W hb => pages_c (h.below hb 0))
  have BA := Lib.hid (((((Only.refl w (fun _ => False)).alloc (.cells #[.slice none 0 0] 43)).alloc (.cells #[.bool false] 4))).below_all)
  have X2 : Hid (Blk ((w.alloc (.cells #[.slice none 0 0] 43)).alloc (.cells #[.bool false] 4)) w.heap.size 43 [.slice none 0 0]) := Lib.hid ((Blk.new w 43 [.slice none 0 0]).alloc _)
  have X3 : Hid (Blk ((w.alloc (.cells #[.slice none 0 0] 43)).alloc (.cells #[.bool false] 4)) (w.heap.size + 1) 4 [.bool false]) := Lib.hid (by have h := Blk.new (w.alloc (.cells #[.slice none 0 0] 43)) 4 [.bool false]; simpa using h)
  have Z4 : Hid (((w.alloc (.cells #[.slice none 0 0] 43)).alloc (.cells #[.bool false] 4)).heap.size = w.heap.size + 2) := Lib.hid (by simp)
  clear h
  refine callsIn_of_wp_marks Try.func17 rfl trivial ?_ rfl
  simp only [Try.ntmps17, List.size_toArray, List.length_cons, List.length_nil, Nat.reduceAdd, Nat.reduceSub, Array.replicate_succ, Array.replicate_zero, List.push_toArray, List.append_toArray, List.nil_append, List.cons_append]
  gi_wp2_with (first
    | (refine ⟨trivial, ?_⟩; gi_at_call 18; refine (callsIn_wide.2 (hP.out _ BA.out)).mono ?_; rintro e w2 ⟨B, v, rfl, hBw, hBlk, hRow, hb⟩)
    | fail)
  generalize ((w.alloc (.cells #[.slice none 0 0] 43)).alloc (.cells #[.bool false] 4)) = w1 at *
  have Y2 := Lib.hid ((X2.out.below hb X2.out.lt).alloc (.cells #[.slice none 0 0] 43))
  have Y3 := Lib.hid ((X3.out.below hb X3.out.lt).alloc (.cells #[.slice none 0 0] 43))
  have Y5 := Lib.hid (Blk.new w2 43 [.slice none 0 0])
  have BW := Lib.hid (((Only.of_below (BA.out.trans (hb.mono BA.out.size)) (fun _ => False)).alloc (.cells #[.slice none 0 0] 43)).below_all)
  have Z3 := Lib.hid (show (w2.alloc (.cells #[.slice none 0 0] 43)).heap.size = w2.heap.size + 1 by simp)
  have hBlk3 := hBlk.alloc (.cells #[.slice none 0 0] 43)
  have hRow3 := hRow.keep ((Only.refl w2 (fun _ => False)).alloc (.cells #[.slice none 0 0] 43)) (fun _ _ h => h)
  have hz1 := Z4.out
  have hz2 := hb.size
  have hbk : B < w2.heap.size := hBlk.lt
  obtain ⟨L, hL⟩ : ∃ L, L = w2.heap.size := ⟨_, rfl⟩
  rw [← hL] at Y5 Z3 ⊢
  have hrowb : Row (w2.alloc (.cells #[.slice none 0 0] 43)) (fun k => w1.heap.size ≤ k ∧ k < L) .i64 v (keysI S.now) := by
    have h := (hRow.mono (ok' := fun k => w1.heap.size ≤ k ∧ k < L) (fun b hb h => ⟨h, by omega⟩)).keep ((Only.refl w2 (fun _ => False)).alloc (.cells #[.slice none 0 0] 43)) (fun _ _ h => h)
    exact h
  have HBL := Lib.hid (show B < L by omega)
  have HLW := Lib.hid (show w.heap.size + 2 ≤ L by omega)
  clear hBlk hRow hRow3 hb hL hbk hz2
  generalize w2.alloc (.cells #[.slice none 0 0] 43) = w3 at *
  obtain ⟨n1, hn1⟩ : ∃ n1, n1 = w3.heap.size := ⟨_, rfl⟩
  obtain ⟨zs, hzs⟩ : ∃ zs : List (KS S), zs = (keysN S.now).attachWith (fun q => q < 728 ∧ (S.now q).isSome = true) (fun q hq => mem_keysN.1 hq) := ⟨_, rfl⟩
  have hzv : zs.map kv = keysN S.now := by rw [hzs]; exact List.attachWith_map_subtype_val ..
  have hzl : zs.length ≤ 728 := by have := congrArg List.length hzv; rw [List.length_map] at this; rw [this]; exact keysN_len _
  have hze : zs.map (fun x => (x.1 : Int)) = keysI S.now := by
    unfold keysI
    rw [← hzv, List.map_map]
    rfl
  have hrow2 : Row w3 (fun k => w1.heap.size ≤ k ∧ k < L) .i64 v (zs.map (fun x => (x.1 : Int))) := by
    rw [hze]
    exact hrowb
  obtain ⟨b, hbl, hbo, hseq⟩ := values_stops (fun x : KS S => (x.1 : Int)) 8 (by omega) B v zs w3 _ hBlk3 hrow2
  have hb1 : b ≠ L := by
    have := HBL.out
    rcases hbo with h | h
    · omega
    · omega
  have HZE := Lib.hid hze
  have hn2 : n1 = L + 1 := by rw [hn1]; exact Z3.out
  clear hzs hzv hrow2 hrowb hbo hP hze
  have HN1 := Lib.hid hn1
  refine wpIn_rangeFunc_ownF (α := KS S) rfl (by omega) (gf := 56) (lb := #[.pointer (some ⟨B, 0, none⟩)]) rfl trivial (enters_of Try.func56 (by kernel_rfl) rfl)
    (encs := fun (x : KS S) => #[.int .i64 (x.1 : Int)]) (Kp := fun X Y => Y.heap[b]? = X.heap[b]?) (S := fun ys => ys = zs) (Sp := fun pre => pre <+: zs) (N := zs.length) (w0 := w3) hseq
    (fun h1 h2 => h2.trans h1) (fun W l o o' hl ho _ _ => by
      have hg := grownBy_putObj' W l o'
      exact hg.block b (by have := (Array.getElem?_eq_some_iff.1 ho).1; omega) (fun e => by injection e with e; omega)) (Below.refl _ _) (fun _ => rfl)
    (fun (pre : List (KS S)) (W : World) => LI w n1 L (pre.map (fun x => (x.1 : Int))) W) (fun _ _ _ => False)
    (fun pre W W' row hI hg hr => LI.abides (fs := pre.map (fun x => (x.1 : Int))) hI hg (fun r e => by have := hr r e; rw [hn1]; exact this)) (fun _ _ _ _ _ hs _ _ => hs)
    ⟨_, Y2.out, Y3.out, Y5.out, World.ownsRow_nil _ _ _ _, BW.out, by omega, HLW.out, by omega⟩
    (fun (x : KS S) => { tmps := #[.pointer (some ⟨s, 0, none⟩), undef, .pointer (some ⟨w.heap.size, 0, none⟩), .pointer (some ⟨w.heap.size + 1, 0, none⟩), .func (.func 56) #[] #[.pointer (some ⟨B, 0, none⟩)], .pointer (some ⟨L, 0, none⟩), .int .i64 (x.1 : Int), .pointer (some ⟨s, 0, none⟩), .func (.func 56) #[] #[.pointer (some ⟨B, 0, none⟩)], .func (.func 56) #[] #[.pointer (some ⟨B, 0, none⟩)], .bool false, .func (.func 56) #[] #[.pointer (some ⟨B, 0, none⟩)], .int .i64 (x.1 : Int), undef, undef, undef, undef, undef, undef, undef, undef], defers := [] }) ?assign ?body ?done ?stop
  case assign =>
    intro l x W K hK
    gi_wp2
    exact hK
  case body =>
    rintro l pre ⟨q, hq, hqs⟩ W hI hlen
    dsimp only
    obtain ⟨fs, hfs⟩ : ∃ fs, fs = pre.map (fun x : KS S => (x.1 : Int)) := ⟨_, rfl⟩
    rw [← hfs] at hI
    have HNX := Lib.hid (show (pre ++ [(⟨q, hq, hqs⟩ : KS S)]).map (fun x => (x.1 : Int)) = fs ++ [(q : Int)] by rw [List.map_append, hfs]; rfl)
    have hfl : fs.length ≤ 727 := by rw [hfs, List.length_map]; omega
    obtain ⟨fv, hI⟩ := hI
    obtain ⟨Af, cf, rfl⟩ : ∃ Af cf, fv = .slice Af fs.length cf := by
      rcases hI.o7.2 with ⟨hv, h0⟩ | ⟨g, cap, cur, hv, _⟩
      · exact ⟨none, 0, by rw [hv, h0]⟩
      · exact ⟨_, _, hv⟩
    have HI := Lib.hid hI
    have c5 := hI.b5.cell_at 0 _ rfl
    have f5 := hI.b5.frozen 0
    obtain ⟨i0, hi0, hz0, hz1', hz2'⟩ := info_parts info3
    have hbn : b < n1 := by omega
    clear hI hfs
    gi_wp2_with (first
      | (gi_at_builtin; refine wpListIn_append_own_at _ rfl (.tmp 13) (.tmp 15) 43 rfl n1 3 i0 (.int .i64 0) 1 8 Try.underlying43 hi0 hz0 hz1' hz2' rfl (by decide) (.slice Af fs.length cf) fs.length (fs.map (Value.int .i64)) rfl (World.ownsRow.alloc HI.out.o7 _) ⟨W.heap.size, 0, none⟩ 1 1 [.int .i64 (q : Int)] rfl rfl (cell_one_new _ _ _) (by simp [Value.oneCell']) (by unfold maxLen; omega) (by omega) (by have := HI.out.size; simp; omega) ?_; intro v' w4 hown hg hnil hat
         obtain ⟨g', cap', rfl⟩ := ownsRow_succ hown
         have g5 := HI.out.at5 _ hg
         have d5 := g5.cell_at 0 _ rfl
         have e5 := g5.frozen 0
         have T := HI.out.fresh _ hg hown
         have T1 := Lib.hid T.1
         have KO1 := Lib.hid T.2.1
         have KB1 := Lib.hid (T.2.2 b hb1 hbn)
         clear hown hg hnil hat g5 T)
      | fail)
    refine ⟨KO1.out, KB1.out, ?_⟩
    show LI w n1 L ((pre ++ [(⟨q, hq, hqs⟩ : KS S)]).map (fun x => (x.1 : Int))) _
    rw [HNX.out]
    exact ⟨_, T1.out⟩
  case stop =>
    rintro D c pre W _ _ h _
    exact h.elim
  case done =>
    rintro D xs W hD rfl hI hK
    obtain ⟨fv, hI⟩ := hI
    rw [HZE.out] at hI
    obtain ⟨fs, hfs⟩ : ∃ fs, fs = keysI S.now := ⟨_, rfl⟩
    rw [← hfs] at hI
    have HFS := Lib.hid hfs
    clear hfs
    obtain ⟨Af, cf, rfl⟩ : ∃ Af cf, fv = .slice Af fs.length cf := by
      rcases hI.o7.2 with ⟨hv, h0⟩ | ⟨g, cap, cur, hv, _⟩
      · exact ⟨none, 0, by rw [hv, h0]⟩
      · exact ⟨_, _, hv⟩
    have HI := Lib.hid hI
    have c5 := hI.b5.cell_at 0 _ rfl
    have c2 := hI.b2.cell_at 0 _ rfl
    have c3 := hI.b3.cell_at 0 _ rfl
    have f2 := hI.b2.frozen 0
    have f3 := hI.b3.frozen 0
    clear hI
    gi_wp2
    have h1 := HI.out.two
    have h2 := HI.out.lt
    have hzw := HI.out.size
    have hbel := HI.out.below.size
    have hn9 := HN1.out
    have hK2 : ((W.setCell ⟨w.heap.size, 0, none⟩ (.slice Af fs.length cf)).setCell ⟨w.heap.size + 1, 0, none⟩ (.bool true)).heap[D]? = some (.deferred (some [])) := (Below.heap_setCell _ _ _ D (by show D ≠ w.heap.size + 1; omega)).trans ((Below.heap_setCell _ _ _ D (by show D ≠ w.heap.size; omega)).trans hK)
    have e2 := ((HI.out.b2.set_ 0 (.slice Af fs.length cf)).far (p := ⟨w.heap.size + 1, 0, none⟩) (by show w.heap.size ≠ w.heap.size + 1; omega) (.bool true))
    have e3 := ((HI.out.b3.far (p := ⟨w.heap.size, 0, none⟩) (by show w.heap.size + 1 ≠ w.heap.size; omega) (.slice Af fs.length cf)).set_ 0 (.bool true))
    have hblk : ∀ k, n1 ≤ k → ((W.setCell ⟨w.heap.size, 0, none⟩ (.slice Af fs.length cf)).setCell ⟨w.heap.size + 1, 0, none⟩ (.bool true)).heap[k]? = W.heap[k]? := fun k hk => (Below.heap_setCell _ _ _ k (by show k ≠ w.heap.size + 1; omega)).trans (Below.heap_setCell _ _ _ k (by show k ≠ w.heap.size; omega))
    have O2 := (((Only.of_below HI.out.below (fun k => w.heap.size ≤ k)).setCell (p := ⟨w.heap.size, 0, none⟩) (fun _ => Nat.le_refl _) (.slice Af fs.length cf)).setCell (p := ⟨w.heap.size + 1, 0, none⟩) (fun _ => by show w.heap.size ≤ w.heap.size + 1; omega) (.bool true))
    generalize (W.setCell ⟨w.heap.size, 0, none⟩ (.slice Af fs.length cf)).setCell ⟨w.heap.size + 1, 0, none⟩ (.bool true) = W2 at *
    refine ⟨by simp, .inl ⟨_, _, rfl, run_takeDeferred hK2, ?_⟩⟩
    have gk := grownBy_putObj' W2 D (.deferred none)
    have x2 : (W2.putObj D (.deferred none)).cell? ⟨w.heap.size, 0, none⟩ = some (.slice Af fs.length cf) := (World.cell?_of_block (gk.block w.heap.size e2.lt (fun e => by injection e with e; omega))).trans (e2.cell_at 0 _ rfl)
    have x3 : (W2.putObj D (.deferred none)).cell? ⟨w.heap.size + 1, 0, none⟩ = some (.bool true) := (World.cell?_of_block (gk.block (w.heap.size + 1) e3.lt (fun e => by injection e with e; omega))).trans (e3.cell_at 0 _ rfl)
    have bel : Below w.heap.size w (W2.putObj D (.deferred none)) := (O2.step (Only.of_grown gk) (fun k _ h => by injection h with h; omega)).below (Nat.le_refl _) (fun k hk h => by omega)
    have o7 : (W2.putObj D (.deferred none)).ownsRow n1 3 1 (.slice Af fs.length cf) fs.length (fs.map (Value.int .i64)) := own_of_block HI.out.o7 (fun b hb => by
      obtain ⟨hb1, cells, hc⟩ := own_cells HI.out.o7 hb
      refine (gk.block b ?_ (fun e => ?_)).trans (hblk b hb1)
      · have h3 := hblk b hb1
        rw [hc] at h3
        exact (Array.getElem?_eq_some_iff.1 h3).1
      · injection e with e
        rw [← e, hc] at hK
        cases hK)
    generalize W2.putObj D (.deferred none) = W3 at *
    have hres : Try.f17.results = #[.cell 2 43, .cell 3 4] := by kernel_rfl
    refine ⟨.tuple #[.slice Af fs.length cf, .bool true], ?_, .slice Af fs.length cf, rfl, ?_, bel⟩
    · simp [results, hres, asAddr, go_sem, x2, x3]
    · rw [← HFS.out]
      exact own_weaken o7 (by omega)
theorem listed_c {w : World} {own : Nat → Nat} {base g s : Nat} {S : SV} (h : St w own base g s S) :
    Calls Try.prog 17 #[.pointer (some ⟨s, 0, none⟩)] w fun e w' => ∃ v, e = .returned (.tuple #[v, .bool true]) ∧ Row w' (fun k => w.heap.size ≤ k) .i64 v (keysI S.now) ∧ Below w.heap.size w w' := by
  refine (callsIn_wide.1 (listed_live h)).mono ?_
  rintro e w' ⟨fv, rfl, h1, h2⟩
  refine ⟨fv, rfl, ?_, h2⟩
  have h3 : (Kd.int .i64).R 3 w' w.heap.size (fun _ => True) fv (keysI S.now) := Kd.R_of_own (enc := Value.int .i64) (h1 := fun _ => rfl) h1 (fun _ _ => trivial)
  exact (Row.of_R (Kd.R_bound h3) (by have := keysI_len S.now; omega)).mono (fun b _ hb => hb.2.1)
end Go.Proofs.Ytochnokfcfmgnaa.St
end

section
/- Seat F: what a store holds, told. -/
namespace Go.Proofs.Ytochnokfcfmgnaa.St
open Go Go.RowKit Go.Proofs.Ytochnokfcfmgnaa.Mem Go.Proofs.YtochnokfcfmgnaaW.PrintWords Go.Proofs.Ytochnokfcfmgnaa.Dk Go.Maps Go.ChangeMaps Go.Proofs.Ytochnokfcfmgnaa.Sh Go.Proofs.Ytochnokfcfmgnaa.Sp
set_option linter.unusedVariables false
set_option linter.unusedSimpArgs false
set_option maxRecDepth 100000
set_option maxHeartbeats 4000000
open PShadowCrashes (S89 k89 k89_mkM)
def toldL (f : PM) (ks : List Nat) : List S89 := ks.map (fun q => (⟨((q : Nat) : Int), dataOf f q⟩ : S89))
/-- What a store holds. -/
def toldV (f : PM) : List S89 := toldL f (keysN f)
theorem toldL_snoc (f : PM) (ks : List Nat) (q : Nat) : toldL f (ks ++ [q]) = toldL f ks ++ [(⟨((q : Nat) : Int), dataOf f q⟩ : S89)] := by unfold toldL; rw [List.map_append]; rfl
theorem get_key {S : SV} {q : Nat} (h : q ∈ keysN S.now) : getV S (q : Int) = (dataOf S.now q, 0) := by
  obtain ⟨h1, h2⟩ := mem_keysN.1 h
  obtain ⟨p, hp⟩ := Option.isSome_iff_exists.1 h2
  unfold getV dataOf
  rw [if_neg (by omega), Int.toNat_natCast, hp]
theorem info89 : (Try.prog.info? 89).map (fun i => (i.zero, i.size, i.bytes)) = some (some (.agg #[.int .i64 0, .slice none 0 0]), 2, 32) := by kernel_rfl
theorem told_c {w : World} {own : Nat → Nat} {base g s n : Nat} {S : SV} (h : St w own base g s S) (hO : Ok n S) :
    Calls Try.prog 21 #[.pointer (some ⟨s, 0, none⟩)] w fun e w' => ∃ v, e = .returned (.tuple #[v, .bool true]) ∧ k89.R 89 w' w.heap.size (fun _ => True) v (toldV S.now) ∧ Below w.heap.size w w' := by
  have H0 := Lib.hid h
  have HO := Lib.hid hO
  have LC := Lib.hid (listed_c h)
  obtain ⟨ks, hks⟩ : ∃ ks, ks = keysN S.now := ⟨_, rfl⟩
  have hkl : ks.length ≤ 728 := by rw [hks]; exact keysN_len _
  have hki : keysI S.now = ks.map Int.ofNat := by rw [hks]; rfl
  rw [hki] at LC
  have HKS := Lib.hid hks
  clear h hO hks hki
  go_enter Try.func21, Try.ntmps21
  go_wp2_with (first
    | (go_at_call 17; refine LC.out.mono ?_; rintro e w1 ⟨v1, rfl, r1, b1⟩; have R1 := Lib.hid r1; have B1 := Lib.hid b1; clear r1 b1)
    | fail)
  obtain ⟨Al, cl, rfl, hcl, hCl, _⟩ := R1.out.reads
  rw [List.length_map] at hcl hCl ⊢
  have HCl := Lib.hid hCl
  clear hCl
  have HS1 := Lib.hid (H0.out.below B1.out 0)
  go_loopg [5, 6, 7] ks.length (fun mm bv ov iv wr => ∃ k : Nat, bv = .bool true ∧ iv = .int .i64 k ∧ Aside1 (k + mm = ks.length) ∧ (∃ Ao co, ov = .slice Ao k co) ∧ Aside1 (k89.R 89 wr w1.heap.size (fun _ => True) ov (toldL S.now (ks.take k))) ∧ Aside1 (Below w1.heap.size w1 wr))
  case atStart => exact ⟨0, rfl, rfl, ⟨by omega⟩, ⟨none, 0, rfl⟩, ⟨Kd.R_nil _ _ _ _ _⟩, ⟨Below.refl _ _⟩⟩
  case round =>
    obtain ⟨k, rfl, rfl, ⟨hkm⟩, ⟨Ao, co, rfl⟩, ⟨hR⟩, ⟨hb1⟩⟩ := hrel
    have KM := Lib.hid hkm
    have RO := Lib.hid hR
    have BB0 := Lib.hid (B1.out.trans (hb1.mono B1.out.size))
    have BB1 := Lib.hid hb1
    have hk0 : (k : Int) ≤ 728 := by omega
    have hkk : k ≤ ks.length := by omega
    clear hkm hR hb1
    by_cases hk : k < ks.length
    · have hki : (k : Int) < (ks.length : Int) := by omega
      obtain ⟨q, hq⟩ : ∃ q, ks[k] = q := ⟨_, rfl⟩
      have hCw := Kd.C_below HCl.out BB1.out
      rw [show ks.length = (ks.map Int.ofNat).length by simp] at hCw
      obtain ⟨ad, rfl, e1⟩ := int_at hCw k (by simpa using hk)
      rw [List.getElem_map, hq] at e1
      have e1 : wr.cell? (ad.add k) = some (.int .i64 (q : Int)) := e1
      have hqm : q ∈ keysN S.now := by rw [← HKS.out, ← hq]; exact List.getElem_mem hk
      have HS2 := Lib.hid (H0.out.below BB0.out 0)
      have GK := get_c HS2.out (q : Int)
      rw [get_key hqm] at GK
      have hdl : (dataOf S.now q).length ≤ 116 := by have h := get_len HO.out (q : Int); rw [get_key hqm] at h; exact h
      obtain ⟨d, hd⟩ : ∃ d, d = dataOf S.now q := ⟨_, rfl⟩
      rw [← hd] at GK hdl
      have HD := Lib.hid hd
      have GKH := Lib.hid GK
      obtain ⟨out, hout⟩ : ∃ out, out = toldL S.now (ks.take k) := ⟨_, rfl⟩
      have hol : out.length = k := by rw [hout]; unfold toldL; rw [List.length_map, List.length_take]; omega
      rw [← hout] at RO
      have HOUT := Lib.hid hout
      have HOL := Lib.hid hol
      have HNX := Lib.hid (show out ++ [(⟨(q : Int), d⟩ : S89)] = toldL S.now (ks.take (k + 1)) by
        rw [List.take_add_one, List.getElem?_eq_getElem hk, hq, hout, hd]
        exact (toldL_snoc _ _ _).symm)
      have hLL : Hid ((out.length + 1) * 32 ≤ 140737488355328) := Lib.hid (by omega)
      have APP : Hid (∀ (w2 : World) (Av : Option Addr) (cv : Nat), (Kd.int .u8).R 5 w2 wr.heap.size (fun _ => True) (.slice Av d.length cv) d → Below wr.heap.size wr w2 →
          k89.M w2 w1.heap.size (fun b => wr.heap.size ≤ b) ⟨(q : Int), d⟩ [.int .i64 (q : Int), .slice Av d.length cv] ∧ (∀ b, wr.heap.size ≤ b → True ∧ some b ≠ (Value.slice Ao k co).ownBlock) ∧
          k89.R 89 w2 w1.heap.size (fun _ => True) (.slice Ao k co) out ∧ Below w1.heap.size w1 w2) := by
        refine Lib.hid fun w2 Av cv hr hb => ?_
        exact ⟨k89_mkM _ _ _ _ (Kd.R_lower (Kd.R_mono (Kd.R_bound hr) (fun b hb => hb.2.1)) BB1.out.size), fun b hb => ⟨trivial, fun e => by have := Kd.R_lt RO.out b e.symm; omega⟩, Kd.R_below RO.out hb, BB1.out.trans (hb.mono BB1.out.size)⟩
      clear GK hd hqm hCw hout hol hq
      go_wp2_with (first
        | (go_at_call 11; refine GKH.out.mono ?_; rintro e w2 ⟨v2, rfl, r2, b2⟩; obtain ⟨A2, c2, ev2⟩ := Kd.R_slice r2; subst ev2; have R2 := Lib.hid r2; have B2 := Lib.hid b2; have e1b := (B2.out.cell (World.block_lt_of_cell? _ _ e1)).trans e1; clear r2 b2)
        | ((with_reducible refine gate_builtin (b := .append) (xs := #[.tmp 35, .tmp 42]) rfl ?_); at_builtin; refine Kd.R_append k89 (w0 := w1) w1.heap.size rfl (.tmp 35) (.tmp 42) 56 89 (.agg #[.int .i64 0, .slice none 0 0]) 32 rfl Try.underlying56 info89 rfl (by decide) (by decide) (.slice Ao k co) out ⟨(q : Int), d⟩ [.int .i64 (q : Int), .slice A2 d.length c2] (fun _ => True) (fun b => wr.heap.size ≤ b) rfl rfl (APP.out w2 A2 c2 R2.out B2.out).1 (APP.out w2 A2 c2 R2.out B2.out).2.1 (fun _ _ => trivial) (APP.out w2 A2 c2 R2.out B2.out).2.2.1 (APP.out w2 A2 c2 R2.out B2.out).2.2.2 (Nat.le_trans BB1.out.size B2.out.size) hLL.out ?_; intro v3 w3 hR3 hb3 hg3 hat3; rw [HNX.out] at hR3; have R3 := Lib.hid hR3; have B3 := Lib.hid hb3; have G3 := Lib.hid hg3; obtain ⟨A3, c3, ev3⟩ := Kd.R_slice hR3; rw [show (toldL S.now (ks.take (k + 1))).length = k + 1 by unfold toldL; rw [List.length_map, List.length_take]; omega] at ev3; subst ev3; clear hR3 hb3 hg3 hat3)
        | fail)
      go_roundg (gk - 1)
      case measure => have := KM.out; omega
      case rel => exact ⟨k + 1, rfl, (by simp), ⟨by have := KM.out; omega⟩, ⟨A3, c3, rfl⟩, ⟨R3.out⟩, ⟨B3.out⟩⟩
    · have hki : ¬ (k : Int) < (ks.length : Int) := by omega
      obtain rfl : k = ks.length := by omega
      have R9 := RO.out
      rw [List.take_length] at R9
      go_wp2_with fail
      go_ret2
      exact ⟨_, rfl, by unfold toldV; rw [← HKS.out]; exact Kd.R_lower R9 B1.out.size, BB0.out⟩
end Go.Proofs.Ytochnokfcfmgnaa.St
end

section
/- Seat F: Room, Epoch, same, walked. -/
namespace Go.Proofs.Ytochnokfcfmgnaa.St
open Go Go.RowKit Go.Proofs.Ytochnokfcfmgnaa.Mem Go.Proofs.YtochnokfcfmgnaaW.PrintWords Go.Proofs.Ytochnokfcfmgnaa.Dk Go.Maps Go.ChangeMaps Go.Proofs.Ytochnokfcfmgnaa.Sh Go.Proofs.Ytochnokfcfmgnaa.Sp
set_option linter.unusedVariables false
set_option linter.unusedSimpArgs false
set_option maxRecDepth 100000
set_option maxHeartbeats 4000000
open PShadowCrashes (S89 k89 rd_T89 z89)
theorem frU_count : ∀ (u : List Bool) (i : Nat), (frU u i).length = (u.filter (fun b => !b)).length
  | [], i => rfl
  | b :: r, i => by
    have ih := frU_count r (i + 1)
    unfold frU
    cases b <;> simp [ih]
theorem room_c {w : World} {own : Nat → Nat} {base g s n : Nat} {S : SV} (h : St w own base g s S) (hO : Ok n S) :
    Calls Try.prog 20 #[.pointer (some ⟨s, 0, none⟩)] w fun e w' => e = .returned (.tuple #[.int .i64 ((freeS S (n / 4)).length : Int), .int .i64 (planV S (n / 4)).2.2.1]) ∧ Below w.heap.size w w' := by
  have H0 := Lib.hid h
  have HO := Lib.hid hO
  have US := Lib.hid (used_c h hO)
  obtain ⟨c, hc⟩ : ∃ c, c = n / 4 := ⟨_, rfl⟩
  have hc1 : c ≤ 100 := by have := hO.n2; omega
  obtain ⟨bk, bn, tv, hs, _⟩ := h.blk
  have c6 := hs.cell_at 6 _ rfl
  have HCE := Lib.hid hc
  rw [← hc] at US ⊢
  obtain ⟨bs, hbs⟩ : ∃ bs, bs = uL (usedP S) c := ⟨_, rfl⟩
  have hbl : bs.length = c := by rw [hbs, uL_len]
  rw [← hbs] at US
  have HFR := Lib.hid (show (freeS S c).length = (bs.filter (fun b => !b)).length by unfold freeS; rw [frU_count, hbs])
  rw [HFR.out]
  have HBL := Lib.hid hbl
  clear h hO hs hbs hc hbl
  go_enter Try.func20, Try.ntmps20
  go_wp2_with (first
    | (go_at_call 41; refine US.out.mono ?_; rintro e w1 ⟨B, rfl, hB, hBlk, b1⟩; have BK := Lib.hid hBlk; have B1 := Lib.hid b1; clear hBlk b1)
    | fail)
  have hci : (c : Int) ≤ 100 := by omega
  go_loopg [2, 17] c (fun mm fv iv wr => ∃ k : Nat, fv = .int .i64 (((bs.take k).filter (fun b => !b)).length : Int) ∧ iv = .int .i64 k ∧ Aside1 (k + mm = c) ∧ Aside1 (wr = w1))
  case atStart => exact ⟨0, rfl, rfl, ⟨by omega⟩, ⟨rfl⟩⟩
  case round =>
    obtain ⟨k, rfl, rfl, ⟨hkm⟩, ⟨rfl⟩⟩ := hrel
    have KM := Lib.hid hkm
    have hk0 : (k : Int) ≤ 100 := by omega
    have hkc : k ≤ c := by omega
    clear hkm
    obtain ⟨m, hm⟩ : ∃ m, m = ((bs.take k).filter (fun b => !b)).length := ⟨_, rfl⟩
    have hml : m ≤ 100 := by rw [hm]; have h1 := List.length_filter_le (fun b => !b) (bs.take k); rw [List.length_take] at h1; have := HBL.out; omega
    have HM := Lib.hid hm
    have hmi : (m : Int) ≤ 100 := by omega
    rw [← hm]
    clear hm
    by_cases hk : k < c
    · have hki : (k : Int) < (c : Int) := by omega
      have hkb : k < bs.length := by rw [HBL.out]; exact hk
      have e1 : wr.cell? ⟨B, k, none⟩ = some (.bool bs[k]) := BK.out.cell_at k _ (by rw [List.getElem?_map, List.getElem?_eq_getElem hkb]; rfl)
      have HNX := Lib.hid (show ((bs.take (k + 1)).filter (fun b => !b)).length = m + (if bs[k] = true then 0 else 1) by
        rw [List.take_add_one, List.getElem?_eq_getElem hkb, List.filter_append, List.length_append, ← HM.out]
        cases bs[k] <;> rfl)
      obtain ⟨bv, hbv⟩ : ∃ bv, bs[k] = bv := ⟨_, rfl⟩
      rw [hbv] at e1 HNX
      clear hbv
      cases bv with
      | true =>
        go_wp2_with fail
        go_roundg (gk - 1)
        case measure => have := KM.out; omega
        case rel => exact ⟨k + 1, by rw [HNX.out]; rfl, (by simp), ⟨by have := KM.out; omega⟩, ⟨rfl⟩⟩
      | false =>
        go_wp2_with fail
        go_roundg (gk - 1)
        case measure => have := KM.out; omega
        case rel => exact ⟨k + 1, by rw [HNX.out]; simp, (by simp), ⟨by have := KM.out; omega⟩, ⟨rfl⟩⟩
    · have hki : ¬ (k : Int) < (c : Int) := by omega
      obtain rfl : k = c := by omega
      have hmm : m = (bs.filter (fun b => !b)).length := by rw [HM.out, ← HBL.out, List.take_length]
      have HMM := Lib.hid hmm
      have PL := plan_c (H0.out.below B1.out 0) HO.out
      rw [← HCE.out] at PL
      have PLH := Lib.hid PL
      clear PL hmm
      go_wp2_with (first
        | (go_at_call 42; refine PLH.out.mono ?_; rintro e w2 ⟨dv, tv1, rfl, r1, r2, b2⟩; have B2 := Lib.hid b2; clear r1 r2 b2)
        | fail)
      go_ret2
      exact ⟨by rw [← HMM.out]; rfl, B1.out.trans (B2.out.mono B1.out.size)⟩
theorem sb_mono {a b : List Int} {r : Bool} : ∀ (d k : Nat), PShadowCrashes.quireref01_SameBytes.f k a b = some r → PShadowCrashes.quireref01_SameBytes.f (k + d) a b = some r
  | 0, k, h => h
  | d + 1, k, h => PShadowCrashes.quireref01_SameBytes.mono a b (k + d) r (sb_mono d k h)
theorem sb_any (a b : List Int) (ha : a.length ≤ 116) (k : Nat) (hk : 117 ≤ k) : PShadowCrashes.quireref01_SameBytes.f k a b = some (decide (a = b)) := by
  have h := sb_mono (k - (a.length + 1)) _ (same_f a b (by omega))
  rw [show a.length + 1 + (k - (a.length + 1)) = k by omega] at h
  exact h
theorem same_l0' (a b : List S89) (hab : a.length = b.length) (hl : a.length ≤ 1000) (hd : ∀ x ∈ a, x.f1.length ≤ 116) (d : Nat) : ∀ (k i : Nat), i + d = a.length → d + 200 ≤ k → ∃ r, PShadowCrashes.quirelaw04_same.l0 k a b (i : Int) = some r ∧ (a = b → r = true) := by
  induction d with
  | zero =>
    intro k i h hk
    obtain ⟨k, rfl⟩ : ∃ m, k = m + 1 := ⟨k - 1, by omega⟩
    rw [PShadowCrashes.quirelaw04_same.l0, if_neg (by omega)]
    exact ⟨true, rfl, fun _ => rfl⟩
  | succ d ih =>
    intro k i h hk
    obtain ⟨k, rfl⟩ : ∃ m, k = m + 1 := ⟨k - 1, by omega⟩
    have h1 : i < a.length := by omega
    have h2 : i < b.length := by omega
    have ha : rd_T89 a (i : Int) = a[i] := by simp [rd_T89, h1]
    have hb : rd_T89 b (i : Int) = b[i] := by simp [rd_T89, h2]
    rw [PShadowCrashes.quirelaw04_same.l0, if_pos (by omega), if_pos (by omega), if_pos (by omega), ha, hb]
    have hda := hd _ (List.getElem_mem h1)
    by_cases hx : a[i].f0 = b[i].f0
    · rw [if_pos hx, sb_any _ _ hda k (by omega)]
      show ∃ r, (if decide (a[i].f1 = b[i].f1) = true then PShadowCrashes.quirelaw04_same.l0 k a b (wrap64 ((i : Int) + 1)) else some false) = some r ∧ _
      by_cases hy : a[i].f1 = b[i].f1
      · rw [if_pos (decide_eq_true hy)]
        have ew : wrap64 ((i : Int) + 1) = ((i + 1 : Nat) : Int) := by unfold wrap64; omega
        rw [ew]
        exact ih k (i + 1) (by omega) (by omega)
      · rw [if_neg (by simpa using hy)]
        exact ⟨false, rfl, fun e => absurd (by subst e; rfl) hy⟩
    · rw [if_neg hx]
      exact ⟨false, rfl, fun e => absurd (by subst e; rfl) hx⟩
theorem same_v (a b : List S89) (hl : a.length ≤ 1000) (hd : ∀ x ∈ a, x.f1.length ≤ 116) : ∃ r, PShadowCrashes.quirelaw04_same.f 1300 a b = some r ∧ (a = b → r = true) := by
  unfold PShadowCrashes.quirelaw04_same.f
  by_cases h : a.length = b.length
  · rw [if_pos (by omega)]
    exact same_l0' a b h hl hd a.length 1300 0 (by omega) (by omega)
  · rw [if_neg (by omega)]
    exact ⟨false, rfl, fun e => absurd (by rw [e]) h⟩
/-- Rows of pages that lie still. -/
def Pages (w : World) (own : Nat → Nat) (v : Value) (l : List S89) : Prop := k89.R 89 w 0 (fun b => own b = 0) v l ∧ l.length ≤ 1000 ∧ ∀ x ∈ l, x.f1.length ≤ 116
theorem Pages.own' {w w' : World} {own : Nat → Nat} {v : Value} {l : List S89} (h : Pages w own v l) {T : Nat → Prop} (ho : Only w w' T) (hT : ∀ b, own b = 0 → ¬ T b) (j : Nat) : Pages w' (upd own w.heap.size j) v l := by
  refine ⟨?_, h.2⟩
  have h1 := Kd.R_mono (Kd.R_bound h.1) (ok' := fun b => own b = 0 ∧ b < w.heap.size) (fun b hb => ⟨hb.1, hb.2.2.1⟩)
  exact Kd.R_mono (Kd.R_step h1 (fun b hb hl => ho.block b hl (hT b hb.1))) (fun b hb => by rw [upd_lt hb.2]; exact hb.1)
theorem told_len {f : PM} : (toldV f).length ≤ 728 := by unfold toldV toldL; rw [List.length_map]; exact keysN_len f
theorem told_small {n : Nat} {S : SV} (hO : Ok n S) : ∀ x ∈ toldV S.now, x.f1.length ≤ 116 := by
  intro x hx
  unfold toldV toldL at hx
  obtain ⟨q, hq, rfl⟩ := List.mem_map.1 hx
  show (dataOf S.now q).length ≤ 116
  have h := get_len hO (q : Int)
  rw [get_key hq] at h
  exact h
theorem Pages.of_told {w w' : World} {own : Nat → Nat} {n : Nat} {S : SV} {v : Value} (hO : Ok n S) (h : k89.R 89 w' w.heap.size (fun _ => True) v (toldV S.now)) : Pages w' (upd own w.heap.size 0) v (toldV S.now) :=
  ⟨Kd.R_lower (Kd.R_mono (Kd.R_bound h) (fun b hb => upd_ge hb.2.1)) (Nat.zero_le _), Nat.le_trans told_len (by omega), told_small hO⟩
theorem same_c {w : World} {own own' : Nat → Nat} {v v' : Value} {a b : List S89} (ha : Pages w own v a) (hb : Pages w own' v' b) :
    Calls Try.prog 24 #[v, v'] w fun e w' => ∃ r, e = .returned (.bool r) ∧ (a = b → r = true) ∧ Below w.heap.size w w' := by
  obtain ⟨A, c, rfl⟩ := Kd.R_slice ha.1
  obtain ⟨B, c', rfl⟩ := Kd.R_slice hb.1
  have r1 := Kd.R_reads' ha.1
  have r2 := Kd.R_reads' hb.1
  obtain ⟨r, hr, hr2⟩ := same_v a b ha.2.1 ha.2.2
  refine (PShadowCrashes.quirelaw04_same.calls 1300 A c a B c' b r w r1.2.2 r1.2.1 r2.2.2 r2.2.1 hr).mono ?_
  rintro e w' ⟨rfl, h⟩
  exact ⟨r, rfl, hr2, by first | exact h | exact h.below⟩
end Go.Proofs.Ytochnokfcfmgnaa.St
end

section
/- Seat F: what a commit needs, and what it leaves, plain. -/
namespace Go.Proofs.Ytochnokfcfmgnaa.St
open Go Go.RowKit Go.Proofs.Ytochnokfcfmgnaa.Mem Go.Proofs.YtochnokfcfmgnaaW.PrintWords Go.Proofs.Ytochnokfcfmgnaa.Dk Go.Maps Go.ChangeMaps Go.Proofs.Ytochnokfcfmgnaa.Sh Go.Proofs.Ytochnokfcfmgnaa.Sp
set_option linter.unusedVariables false
set_option linter.unusedSimpArgs false
set_option maxRecDepth 100000
set_option maxHeartbeats 1000000
/-- A list and its last; induction from the end. -/
theorem snoc_ind {α : Type} {P : List α → Prop} (h0 : P []) (h1 : ∀ l a, P l → P (l ++ [a])) : ∀ l, P l := by
  have key : ∀ n (l : List α), l.length = n → P l := by
    intro n
    induction n with
    | zero => intro l e; rw [List.length_eq_zero_iff.1 e]; exact h0
    | succ n ih =>
      intro l e
      have hne : l ≠ [] := by intro h; rw [h] at e; cases e
      rw [← List.dropLast_concat_getLast hne]
      exact h1 _ _ (ih _ (by rw [List.length_dropLast, e]; rfl))
  exact fun l => key _ l rfl
theorem enc_mono : ∀ (b a : Nat), a ≤ b → (enc a).length ≤ (enc b).length := by
  intro b
  induction b using Nat.strongRecOn with
  | _ b ih =>
    intro a h
    by_cases ca : a < 128
    · rw [enc_small ca]
      by_cases cb : b < 128
      · rw [enc_small cb]; simp
      · rw [enc_big cb]; simp
    · rw [enc_big ca, enc_big (show ¬ b < 128 by omega), List.length_cons, List.length_cons]
      have := ih (b / 128) (by omega) (a / 128) (by omega)
      omega
theorem tabF_snd_eq (f : PM) (pl pl' : List Int) (ks : List Nat) : (tabF f pl ks).2 = (tabF f pl' ks).2 := (tabF_snd f pl _ ks rfl).trans (tabF_snd f pl' _ ks rfl).symm
theorem tabF_mono (f : PM) (pl : List Int) (m c : Nat) (hp : ∀ y ∈ pl, y.toNat ≤ c) : ∀ ks, (tabF f pl ks).2.length ≤ m → (tabF f pl ks).1.length ≤ (tabF f (List.replicate m (c : Int)) ks).1.length := by
  refine snoc_ind (fun _ => Nat.le_refl _) (fun l q ih hm => ?_)
  rw [tabF_snoc] at hm ⊢
  rw [tabF_snoc]
  unfold tabStep at hm ⊢
  cases hf : f q with
  | none =>
    rw [hf] at hm
    exact ih hm
  | some p =>
    rw [hf] at hm
    dsimp only at hm ⊢
    have e2 := tabF_snd_eq f pl (List.replicate m (c : Int)) l
    by_cases hp0 : p.1 = 0
    · rw [if_pos hp0, List.length_append] at hm
      simp at hm
      have h1 := ih (by omega)
      rw [if_pos hp0, if_pos hp0, ← e2]
      have h2 : ((List.replicate m (c : Int))[(tabF f pl l).2.length]?.getD 0).toNat = c := by
        rw [List.getElem?_replicate, if_pos (by omega)]; rfl
      rw [h2]
      have h3 : (pl[(tabF f pl l).2.length]?.getD 0).toNat ≤ c := by
        cases hg : pl[(tabF f pl l).2.length]? with
        | none => simp
        | some y => exact hp y (List.mem_of_getElem? hg)
      have h4 := enc_mono _ _ h3
      simp only [List.length_append]
      omega
    · rw [if_neg hp0] at hm
      have h1 := ih hm
      rw [if_neg hp0, if_neg hp0]
      simp only [List.length_append]
      omega
theorem pagesN_mono {a b : Nat} (h : a ≤ b) : pagesN a ≤ pagesN b := by unfold pagesN; omega
/-- A commit is refused just if it needs more than is free. -/
theorem need_iff {n : Nat} {S : SV} (hO : Ok n S) : ((comV S (n / 4)).2 = 0 ↔ (planV S (n / 4)).2.2.1 ≤ ((freeS S (n / 4)).length : Int)) ∧ ((comV S (n / 4)).2 ≠ 0 → (comV S (n / 4)).2 = 7 ∧ (comV S (n / 4)).1 = S) := by
  unfold comV
  rw [planV_eq]
  by_cases hf : Fits S (n / 4)
  · rw [if_pos hf, if_neg (by unfold Fits at hf; omega)]
    exact ⟨⟨fun _ => by unfold Fits at hf; show (((freshN S.now).length + tabN S (n / 4) : Nat) : Int) ≤ _; omega, fun _ => rfl⟩, fun h => absurd rfl h⟩
  · rw [if_neg hf, if_pos (by unfold Fits at hf; omega)]
    refine ⟨⟨(fun h => by cases h), fun h => ?_⟩, fun _ => ⟨rfl, rfl⟩⟩
    exfalso
    have h : mostV S (n / 4) (freshN S.now).length ≤ ((freeS S (n / 4)).length : Int) := h
    unfold mostV at h
    unfold Fits tabN at hf
    have hn := hO.n1
    have hm := tabF_mono S.now ((freeS S (n / 4)).take (freshN S.now).length) (freshN S.now).length (n / 4 - 1) (fun y hy => by have := free_range (List.mem_of_mem_take hy); omega) (keysN S.now) (by
      have := tab_snd S.now ((freeS S (n / 4)).take (freshN S.now).length)
      unfold tab at this
      rw [this, List.length_map]
      exact Nat.le_refl _)
    have h2 := pagesN_mono hm
    rw [show ((n / 4 : Nat) : Int) - 1 = ((n / 4 - 1 : Nat) : Int) by omega] at h
    unfold tab at h hf
    omega
/-- The pages have the same data behind a commit. -/
theorem cm_told {n : Nat} {S : SV} (hO : Ok n S) {data tabs : List Int} (hd : ∀ p ∈ data, 2 ≤ p ∧ p < ((n / 4 : Nat) : Int)) (hl : data.length = (freshN S.now).length) :
    keysN (cmV S data tabs).now = keysN S.now ∧ (∀ q, dataOf (cmV S data tabs).now q = dataOf S.now q) ∧ toldV (cmV S data tabs).now = toldV S.now := by
  have h1 : keysN (cmV S data tabs).now = keysN S.now := by
    unfold keysN
    congr 1
    funext j
    rcases cm_now hO hd hl (tabs := tabs) j with ⟨h1, h2⟩ | ⟨p, h1, _, h2⟩ | ⟨p, i, h1, _, _, _, h2⟩ <;> rw [h1, h2] <;> rfl
  have h2 : ∀ q, dataOf (cmV S data tabs).now q = dataOf S.now q := fun j => by
    unfold dataOf
    rcases cm_now hO hd hl (tabs := tabs) j with ⟨h1, h2⟩ | ⟨p, h1, _, h2⟩ | ⟨p, i, h1, _, _, _, h2⟩ <;> rw [h1, h2]
  refine ⟨h1, h2, ?_⟩
  unfold toldV toldL
  rw [h1]
  congr 1
  funext q
  rw [h2]
/-- The table behind a commit is the one that was written. -/
theorem cm_tab {n : Nat} {S : SV} (hO : Ok n S) {data tabs : List Int} (hd : ∀ p ∈ data, 2 ≤ p ∧ p < ((n / 4 : Nat) : Int)) (hl : data.length = (freshN S.now).length) (pl : List Int) :
    (tab (cmV S data tabs).now pl).1 = (tab S.now data).1 := by
  unfold tab
  rw [(cm_told hO hd hl (tabs := tabs)).1]
  have key : ∀ ks, ks <+: keysN S.now → (tabF (cmV S data tabs).now pl ks).1 = (tabF S.now data ks).1 := by
    refine snoc_ind (fun _ => rfl) (fun l q ih hpre => ?_)
    have ih := ih ((List.prefix_append l [q]).trans hpre)
    rw [tabF_snoc, tabF_snoc]
    unfold tabStep
    rcases cm_now hO hd hl (tabs := tabs) q with ⟨h1, h2⟩ | ⟨p, h1, h0, h2⟩ | ⟨p, i, h1, h0, h3, h4, h2⟩
    · rw [h1, h2]; exact ih
    · rw [h1, h2]
      dsimp only
      rw [if_neg h0, if_neg h0, ih]
    · rw [h1, h2]
      dsimp only
      have hdr := hd _ (List.getElem_mem h4)
      have hne : ¬ (data[i]).toNat = 0 := by omega
      have hlen : (tabF S.now data l).2.length = i := by
        rw [tabF_snd S.now data _ l rfl, List.length_map]
        obtain ⟨r, hr⟩ := hpre
        have hfr : freshN S.now = l.filter (fun q => match S.now q with | none => false | some p => decide (p.1 = 0)) ++ (q :: r.filter (fun q => match S.now q with | none => false | some p => decide (p.1 = 0))) := by
          unfold freshN
          rw [← hr, List.append_assoc, List.filter_append]
          congr 1
          rw [List.singleton_append, List.filter_cons, h1]
          simp [h0]
          rfl
        have hnd : (freshN S.now).Nodup := by
          have h1 := (keysN_pairwise S.now).sublist (List.filter_sublist (p := fun q => match S.now q with | none => false | some p => decide (p.1 = 0)))
          exact h1.imp (fun {a b} h e => by omega)
        obtain ⟨hi, hiq⟩ := List.getElem?_eq_some_iff.1 h3
        have hj : (freshN S.now)[(l.filter (fun q => match S.now q with | none => false | some p => decide (p.1 = 0))).length]? = some q := by
          rw [hfr, List.getElem?_append_right (Nat.le_refl _), Nat.sub_self]
          rfl
        obtain ⟨hj1, hj2⟩ := List.getElem?_eq_some_iff.1 hj
        rcases Nat.lt_trichotomy (l.filter (fun q => match S.now q with | none => false | some p => decide (p.1 = 0))).length i with h | h | h
        · exact absurd (hj2.trans hiq.symm) (List.pairwise_iff_getElem.1 hnd _ _ hj1 hi h)
        · exact h
        · exact absurd (hiq.trans hj2.symm) (List.pairwise_iff_getElem.1 hnd _ _ hi hj1 h)
      rw [if_neg hne, if_pos h0, hlen, List.getElem?_eq_getElem h4, Option.getD_some, ih]
  exact key _ (List.prefix_refl _)
end Go.Proofs.Ytochnokfcfmgnaa.St
end

section
/- Seat F: pages lie apart; how many are free, plain. -/
namespace Go.Proofs.Ytochnokfcfmgnaa.St
open Go Go.RowKit Go.Proofs.Ytochnokfcfmgnaa.Mem Go.Proofs.YtochnokfcfmgnaaW.PrintWords Go.Proofs.Ytochnokfcfmgnaa.Dk Go.Maps Go.ChangeMaps Go.Proofs.Ytochnokfcfmgnaa.Sh Go.Proofs.Ytochnokfcfmgnaa.Sp
set_option linter.unusedVariables false
set_option linter.unusedSimpArgs false
set_option maxRecDepth 100000
set_option maxHeartbeats 1000000
/-- What is committed lies apart. -/
structure Inj (S : SV) : Prop where
  inj : ∀ i j p p', S.kept i = some p → S.kept j = some p' → p.1 = p'.1 → i = j
  dis : ∀ i p, S.kept i = some p → ((p.1 : Nat) : Int) ∉ S.tabs
  nod : S.tabs.Nodup
def placeOf (f : PM) (q : Nat) : Nat := match f q with | some p => p.1 | none => 0
theorem nodup_map_toNat {l : List Int} (h : l.Nodup) (h0 : ∀ x ∈ l, 0 ≤ x) : (l.map Int.toNat).Nodup := by
  refine List.pairwise_map.2 (h.imp_of_mem fun {a b} ha hb hne e => hne ?_)
  have h1 := h0 a ha
  have h2 := h0 b hb
  omega
theorem freeS_pairwise (S : SV) (c : Nat) : (freeS S c).Pairwise (· < ·) := frU_pairwise _ _
theorem freeS_nodup (S : SV) (c : Nat) : (freeS S c).Nodup := (freeS_pairwise S c).imp (fun {a b} h e => by omega)
theorem Inj.put {S : SV} (h : Inj S) (i : Int) (d : List Int) : Inj (putV S i d) := by
  unfold putV; split
  · exact ⟨h.inj, h.dis, h.nod⟩
  · exact h
theorem Inj.drop {S : SV} (h : Inj S) (i : Int) : Inj (dropV S i) := by
  unfold dropV; split
  · exact ⟨h.inj, h.dis, h.nod⟩
  · exact h
theorem Inj.back {S : SV} (h : Inj S) : Inj { S with now := S.kept } := ⟨h.inj, h.dis, h.nod⟩
theorem free_not_kept {S : SV} {c : Nat} {x : Int} (h : x ∈ freeS S c) {i : Nat} {p : Nat × List Int} (hp : S.kept i = some p) : ((p.1 : Nat) : Int) ≠ x := by
  obtain ⟨k, _, h2, rfl⟩ := freeS_mem.1 h
  intro e
  exact h2 (.inr (.inr (.inr ⟨i, p, hp, by omega⟩)))
theorem com_inj {n : Nat} {S : SV} (hO : Ok n S) (hI : Inj S) : Inj (comV S (n / 4)).1 := by
  unfold comV
  split
  · rename_i hf
    show Inj (cmV S (dataP S (n / 4)) (tabsP S (n / 4)))
    have hl := dataP_len hf
    have hdn : (dataP S (n / 4)).Nodup := (freeS_nodup S (n / 4)).sublist (List.take_sublist _ _)
    have htn : (tabsP S (n / 4)).Nodup := (freeS_nodup S (n / 4)).sublist ((List.drop_sublist _ _).trans (List.take_sublist _ _))
    have hapart : ∀ x ∈ dataP S (n / 4), x ∉ tabsP S (n / 4) := by
      intro x hx ht
      have e : dataP S (n / 4) ++ tabsP S (n / 4) = (freeS S (n / 4)).take ((freshN S.now).length + tabN S (n / 4)) := by
        unfold dataP tabsP
        have h1 : (freeS S (n / 4)).take (freshN S.now).length = ((freeS S (n / 4)).take ((freshN S.now).length + tabN S (n / 4))).take (freshN S.now).length := by rw [List.take_take, Nat.min_eq_left (by omega)]
        rw [h1, List.take_append_drop]
      have h2 : (dataP S (n / 4) ++ tabsP S (n / 4)).Nodup := by rw [e]; exact (freeS_nodup S (n / 4)).sublist (List.take_sublist _ _)
      exact (List.nodup_append.1 h2).2.2 x hx x ht rfl
    have hcase : ∀ i p, (cmV S (dataP S (n / 4)) (tabsP S (n / 4))).kept i = some p → (S.kept i = some p ∧ p.1 ≠ 0) ∨ (∃ k, (freshN S.now)[k]? = some i ∧ ∃ h : k < (dataP S (n / 4)).length, ((p.1 : Nat) : Int) = (dataP S (n / 4))[k]) := by
      intro i p hp
      rw [cm_kept] at hp
      rcases cm_now hO (dataP_range (S := S)) hl (tabs := tabsP S (n / 4)) i with ⟨_, h⟩ | ⟨p0, h1, h2, h3⟩ | ⟨p0, k, h1, h2, h3, h4, h5⟩
      · rw [h] at hp; cases hp
      · rw [h3] at hp
        injection hp with hp
        subst hp
        rcases (hO.now i p0 h1).2.1 with h6 | h6
        · exact absurd h6 h2
        · exact .inl ⟨h6, h2⟩
      · rw [h5] at hp
        injection hp with hp
        subst hp
        have h7 := dataP_range (S := S) (c := n / 4) _ (List.getElem_mem h4)
        exact .inr ⟨k, h3, h4, by show (((dataP S (n / 4))[k].toNat : Nat) : Int) = _; omega⟩
    refine ⟨fun i j p p' hi hj e => ?_, fun i p hi ht => ?_, htn⟩
    · rcases hcase i p hi with ⟨h1, _⟩ | ⟨k, h1, h2, h3⟩ <;> rcases hcase j p' hj with ⟨h1', _⟩ | ⟨k', h1', h2', h3'⟩
      · exact hI.inj i j p p' h1 h1' e
      · exact absurd (by rw [e]; exact h3') (free_not_kept (List.mem_of_mem_take (List.getElem_mem h2')) h1)
      · exact absurd (by rw [← e]; exact h3) (free_not_kept (List.mem_of_mem_take (List.getElem_mem h2)) h1')
      · have hkk : (dataP S (n / 4))[k] = (dataP S (n / 4))[k'] := by rw [← h3, ← h3', e]
        have hk : k = k' := by
          rcases Nat.lt_trichotomy k k' with h | h | h
          · exact absurd hkk (List.pairwise_iff_getElem.1 hdn _ _ h2 h2' h)
          · exact h
          · exact absurd hkk.symm (List.pairwise_iff_getElem.1 hdn _ _ h2' h2 h)
        subst hk
        rw [h1] at h1'
        injection h1'
    · have ht : ((p.1 : Nat) : Int) ∈ tabsP S (n / 4) := ht
      rcases hcase i p hi with ⟨h1, _⟩ | ⟨k, h1, h2, h3⟩
      · exact free_not_kept (List.mem_of_mem_take (List.mem_of_mem_drop ht)) h1 rfl
      · exact hapart _ (List.getElem_mem h2) (by rw [← h3]; exact ht)
  · exact hI
theorem new_inj (x : DV) : Inj (newV x) := ⟨(fun _ _ _ _ h => by cases h), (fun _ _ h => by cases h), List.nodup_nil⟩
theorem op_inj {n : Nat} {S : SV} (hO : Ok n S) (hI : Inj S) (o : OpV) : Inj (opS (n / 4) S o) := by
  unfold opS
  split
  · exact hI.drop _
  · split
    · exact com_inj hO hI
    · split
      · exact hI.back
      · split
        · exact hI
        · exact hI.put _ _
theorem work_inj {n : Nat} {S : SV} (hO : Ok n S) (hI : Inj S) {script : List OpV} (hs : ∀ o ∈ script, OpOk o) : ∀ k, Inj (workV (n / 4) (script.take k) S)
  | 0 => hI
  | k + 1 => by
    have ih := work_inj hO hI hs k
    cases hp : script[k]? with
    | none =>
      have e : script.take (k + 1) = script.take k := by rw [List.take_add_one, hp]; simp
      rw [e]; exact ih
    | some o =>
      rw [workV_succ hp]
      exact op_inj (work_ok hO hs k).1 ih o
theorem grown_inj {n : Nat} (h1 : 12 ≤ n) (h2 : n ≤ 400) {script : List OpV} (hs : ∀ o ∈ script, OpOk o) : Inj (grownV n script) := by
  have h0 := newV_ok (fresh_good n (by omega) (by omega)) rfl h1 h2
  have hI := work_inj h0 (new_inj _) hs script.length
  rw [List.take_length] at hI
  have hc := com_inj (work_ok' h0 hs).1 hI
  unfold grownV endV
  split
  · exact hc
  · exact hc.back
end Go.Proofs.Ytochnokfcfmgnaa.St
end

section
/- Seat F: ShadowRoom, walked. -/
namespace Go.Proofs.Ytochnokfcfmgnaa.St
open Go Go.RowKit Go.Proofs.Ytochnokfcfmgnaa.Mem Go.Proofs.YtochnokfcfmgnaaW.PrintWords Go.Proofs.Ytochnokfcfmgnaa.Dk Go.Maps Go.ChangeMaps Go.Proofs.Ytochnokfcfmgnaa.Sh Go.Proofs.Ytochnokfcfmgnaa.Sp
set_option linter.unusedVariables false
set_option linter.unusedSimpArgs false
set_option maxRecDepth 100000
set_option maxHeartbeats 4000000
open PShadowCrashes (S89 k89)
/-- A script without its commits. -/
noncomputable def moreS (c : Nat) (S : SV) (o : OpV) : SV := if o.1 = 3 then S else opS c S o
noncomputable def moreV (c : Nat) (more : List OpV) (S : SV) : SV := more.foldl (moreS c) S
theorem moreV_succ {c : Nat} {more : List OpV} {S : SV} {k : Nat} {o : OpV} (h : more[k]? = some o) : moreV c (more.take (k + 1)) S = moreS c (moreV c (more.take k) S) o := by
  unfold moreV
  rw [List.take_add_one, h, List.foldl_append]
  rfl
/-- What does not change. -/
theorem moreS_same (c : Nat) (S : SV) (o : OpV) : (moreS c S o).x = S.x ∧ (moreS c S o).root = S.root ∧ (moreS c S o).epoch = S.epoch ∧ (moreS c S o).tabs = S.tabs ∧ (moreS c S o).kept = S.kept := by
  unfold moreS
  split
  · exact ⟨rfl, rfl, rfl, rfl, rfl⟩
  · rename_i h3
    unfold opS
    split
    · unfold dropV; split <;> exact ⟨rfl, rfl, rfl, rfl, rfl⟩
    · split
      · exact ⟨rfl, rfl, rfl, rfl, rfl⟩
      · split
        · exact ⟨rfl, rfl, rfl, rfl, rfl⟩
        · unfold putV; split <;> exact ⟨rfl, rfl, rfl, rfl, rfl⟩
theorem more_ok {n : Nat} {S : SV} (h : Ok n S) {more : List OpV} (hs : ∀ o ∈ more, OpOk o) : ∀ k, Ok n (moreV (n / 4) (more.take k) S) ∧ (moreV (n / 4) (more.take k) S).x = S.x ∧ (moreV (n / 4) (more.take k) S).root = S.root ∧ (moreV (n / 4) (more.take k) S).epoch = S.epoch ∧ (moreV (n / 4) (more.take k) S).tabs = S.tabs ∧ (moreV (n / 4) (more.take k) S).kept = S.kept
  | 0 => ⟨h, rfl, rfl, rfl, rfl, rfl⟩
  | k + 1 => by
    obtain ⟨h1, h2, h3, h4, h5, h6⟩ := more_ok h hs k
    cases hp : more[k]? with
    | none =>
      have e : more.take (k + 1) = more.take k := by rw [List.take_add_one, hp]; simp
      rw [e]
      exact ⟨h1, h2, h3, h4, h5, h6⟩
    | some o =>
      rw [moreV_succ hp]
      obtain ⟨q2, q3, q4, q5, q6⟩ := moreS_same (n / 4) (moreV (n / 4) (more.take k) S) o
      refine ⟨?_, q2.trans h2, q3.trans h3, q4.trans h4, q5.trans h5, q6.trans h6⟩
      unfold moreS
      split
      · exact h1
      · exact h1.op (hs o (List.mem_of_getElem? hp))
theorem C_one {α : Type} {d : Kd α} {w : World} {ad : Addr} {n : Nat} {xs : List α} (h : d.C w (some ad) n xs) (k : Nat) {x : α} (hx : xs[k]? = some x) : d.C w (some (ad.add (k * d.sz))) 1 [x] := by
  have hk : k < xs.length := (List.getElem?_eq_some_iff.1 hx).1
  obtain ⟨h1, h2, h3⟩ := h
  obtain ⟨ad', e, hc⟩ := h3 (by omega)
  injection e with e
  subst e
  refine ⟨rfl, by omega, fun _ => ⟨_, rfl, fun j p hj => ?_⟩⟩
  cases j with
  | succ j => simp at hj
  | zero =>
    have : x = p := by simpa using hj
    subst this
    obtain ⟨cs, c1, c2, c3⟩ := hc k x hx
    refine ⟨cs, c1, c2, fun i u hu => ?_⟩
    have := c3 i u hu
    rw [Addr.add_add, Nat.zero_mul, Nat.zero_add]
    exact this
end Go.Proofs.Ytochnokfcfmgnaa.St
end
