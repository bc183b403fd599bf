/- Texts merged: a section each. -/
import Derived.Test.YtochnokfcfmgnaaME
section
/- Seat F: the pages of a store, listed. -/
namespace Go.Proofs.Ytochnokfcfmgnaa.St
open Go Go.RowKit Go.Shelf Go.Proofs.Ytochnokfcfmgnaa.Mem Go.Proofs.YtochnokfcfmgnaaW.PrintWords Go.Proofs.Ytochnokfcfmgnaa.Dk Go.Maps Go.ChangeMaps Go.Proofs.Ytochnokfcfmgnaa.Sh Go.Proofs.Ytochnokfcfmgnaa.Sp
set_option linter.unusedVariables false
set_option linter.unusedSimpArgs false
attribute [local go_sem] Oper.semAt_some
set_option maxRecDepth 100000
set_option maxHeartbeats 4000000
/-- Between two rounds. -/
structure LIx (w : World) (n1 L : Nat) (fs : List Int) (fv : Value) (W : World) : Prop where
  b2 : Blk W w.heap.size 43 [.slice none 0 0]
  b3 : Blk W (w.heap.size + 1) 4 [.bool false]
  b5 : Blk W L 43 [fv]
  o7 : W.ownsRow n1 3 1 fv fs.length (fs.map (Value.int .i64))
  below : Below w.heap.size w W
  size : n1 ≤ W.heap.size
  two : w.heap.size + 2 ≤ L
  lt : L < n1
def LI (w : World) (n1 L : Nat) (fs : List Int) (W : World) : Prop := ∃ fv, LIx w n1 L fs fv W
theorem LI.abides {w W W' : World} {n1 L : Nat} {fs : List Int} {row : Option Nat} (h : LI w n1 L fs W) (hg : W.grownBy W' row) (hr : ∀ r, row = some r → n1 ≤ r ∧ ∃ o : Obj, W.heap[r]? = some o ∧ o.isCells = false) : LI w n1 L fs W' := by
  have key : ∀ (k : Nat) (cells : Array Value) (t : TypeId) (z : Nat × Nat), W.heap[k]? = some (.cells cells t z) → W'.heap[k]? = W.heap[k]? := fun k cells t z hk => by
    refine hg.block k (Array.getElem?_eq_some_iff.1 hk).1 (fun e => ?_)
    obtain ⟨_, o, ho, hc⟩ := hr k e.symm
    rw [hk] at ho
    injection ho with ho
    rw [← ho] at hc
    cases hc
  obtain ⟨fv, h⟩ := h
  have h1 := h.two
  have h2 := h.lt
  refine ⟨fv, (key _ _ _ _ h.b2).trans h.b2, (key _ _ _ _ h.b3).trans h.b3, (key _ _ _ _ h.b5).trans h.b5, own_of_block h.o7 (fun b hb => by obtain ⟨_, cells, hc⟩ := own_cells h.o7 hb; exact key _ _ _ _ hc), ?_, Nat.le_trans h.size hg.size, h.two, h.lt⟩
  exact h.below.trans ⟨hg.os, hg.tape, hg.output, hg.size, fun k hk => hg.block k (by have := h.below.size; omega) (fun e => by have := (hr k e.symm).1; omega)⟩
theorem LIx.fresh {w W w3 : World} {n1 L : Nat} {fv fv2 : Value} {fs : List Int} {q : Int} (h : LIx w n1 L fs fv W) (o : Obj) (hg : (W.alloc o).grownBy w3 fv.ownBlock) (ho : w3.ownsRow n1 3 1 fv2 (fs.length + 1) (fs.map (Value.int .i64) ++ [.int .i64 q])) :
    LIx w n1 L (fs ++ [q]) fv2 (w3.setCell ⟨L, 0, none⟩ fv2) ∧ KeepsOthers W (w3.setCell ⟨L, 0, none⟩ fv2) ∧ ∀ b, b ≠ L → b < n1 → (w3.setCell ⟨L, 0, none⟩ fv2).heap[b]? = W.heap[b]? := by
  have h1 := h.two
  have h2 := h.lt
  have hsz := h.size
  have hblk : ∀ k, k < W.heap.size → fv.ownBlock ≠ some k → w3.heap[k]? = W.heap[k]? := fun k hk hne => (hg.block k (by simp; omega) (fun e => hne e.symm)).trans (Below.heap_alloc W o k hk)
  have hlow : ∀ k, k < n1 → fv.ownBlock ≠ some k := fun k hk e => by have := (own_cells h.o7 e).1; omega
  have hfar : ∀ k, k ≠ L → (w3.setCell ⟨L, 0, none⟩ fv2).heap[k]? = w3.heap[k]? := fun k hk => Below.heap_setCell w3 ⟨L, 0, none⟩ fv2 k hk
  have key : ∀ k, k < n1 → w3.heap[k]? = W.heap[k]? := fun k hk => hblk k (by omega) (hlow k hk)
  have q2 := (show Blk w3 _ _ _ from (key _ (by omega)).trans h.b2).far (p := ⟨L, 0, none⟩) (by show w.heap.size ≠ L; omega) fv2
  have q3 := (show Blk w3 _ _ _ from (key _ (by omega)).trans h.b3).far (p := ⟨L, 0, none⟩) (by show w.heap.size + 1 ≠ L; omega) fv2
  have q5 := (show Blk w3 _ _ _ from (key _ (by omega)).trans h.b5).set_ 0 fv2
  have hs3 : W.heap.size ≤ w3.heap.size := Nat.le_trans (by simp) hg.size
  have hw : Below w.heap.size w w3 := h.below.trans ⟨hg.os, hg.tape, hg.output, hs3, fun k hk => key k (by omega)⟩
  refine ⟨⟨q2, q3, q5, ?_, hw.setCell (p := ⟨L, 0, none⟩) (by show w.heap.size ≤ L; omega) fv2, by simp; omega, h.two, h.lt⟩, ?_, fun b h1 h2 => (hfar b h1).trans (key b h2)⟩
  · have e1 : (fs ++ [q]).length = fs.length + 1 := by simp
    have e2 : (fs ++ [q]).map (Value.int .i64) = fs.map (Value.int .i64) ++ [.int .i64 q] := by simp
    rw [e1, e2]
    exact own_of_block ho (fun b hb => hfar b (by have := (own_cells ho hb).1; omega))
  · refine KeepsOthers.trans ⟨hs3, fun k o' ho' hc => ?_⟩ (KeepsOthers.setCell _ _ _)
    have hk := (Array.getElem?_eq_some_iff.1 ho').1
    rw [hblk k hk (fun e => by
      obtain ⟨_, cells, hc2⟩ := own_cells h.o7 e
      rw [ho'] at hc2
      injection hc2 with hc2
      rw [hc2] at hc
      cases hc)]
    exact ho'
theorem LIx.at5 {w W w3 : World} {n1 L : Nat} {fv : Value} {fs : List Int} (h : LIx w n1 L fs fv W) (o : Obj) (hg : (W.alloc o).grownBy w3 fv.ownBlock) : Blk w3 L 43 [fv] := by
  have h1 := h.lt
  have hsz := h.size
  exact (hg.block _ (by simp; omega) (fun e => by have := (own_cells h.o7 e.symm).1; omega)).trans ((Below.heap_alloc W o _ (by omega)).trans h.b5)
theorem listed_live {w : World} {own : Nat → Nat} {base g s : Nat} {S : SV} (h : St w own base g s S) :
    CallsIn Fence.wide 9 Try.prog 17 #[.pointer (some ⟨s, 0, none⟩)] w fun e w' => ∃ fv, e = .returned (.tuple #[fv, .bool true]) ∧ w'.ownsRow w.heap.size 3 1 fv (keysI S.now).length ((keysI S.now).map (Value.int .i64)) ∧ Below w.heap.size w w' := by
  have hfn := func_ne
  have hP : Hid (∀ W, Below w.heap.size w W → Calls Try.prog 18 #[.pointer (some ⟨s, 0, none⟩)] W fun e w' => ∃ B v, e = .returned (.func (.func 56) #[] #[.pointer (some ⟨B, 0, none⟩)]) ∧ W.heap.size ≤ B ∧ Blk w' B 43 [v] ∧ Row w' (fun k => W.heap.size ≤ k) .i64 v (keysI S.now) ∧ Below W.heap.size W w') := Lib.hid (fun W hb => pages_c (h.below hb 0))
  have BA := Lib.hid (((((Only.refl w (fun _ => False)).alloc (.cells #[.slice none 0 0] 43)).alloc (.cells #[.bool false] 4))).below_all)
  have X2 : Hid (Blk ((w.alloc (.cells #[.slice none 0 0] 43)).alloc (.cells #[.bool false] 4)) w.heap.size 43 [.slice none 0 0]) := Lib.hid ((Blk.new w 43 [.slice none 0 0]).alloc _)
  have X3 : Hid (Blk ((w.alloc (.cells #[.slice none 0 0] 43)).alloc (.cells #[.bool false] 4)) (w.heap.size + 1) 4 [.bool false]) := Lib.hid (by have h := Blk.new (w.alloc (.cells #[.slice none 0 0] 43)) 4 [.bool false]; simpa using h)
  have Z4 : Hid (((w.alloc (.cells #[.slice none 0 0] 43)).alloc (.cells #[.bool false] 4)).heap.size = w.heap.size + 2) := Lib.hid (by simp)
  clear h
  refine callsIn_of_wp_marks Try.func17 rfl trivial ?_ rfl
  simp only [Try.ntmps17, List.size_toArray, List.length_cons, List.length_nil, Nat.reduceAdd, Nat.reduceSub, Array.replicate_succ, Array.replicate_zero, List.push_toArray, List.append_toArray, List.nil_append, List.cons_append]
  gi_wp2_with (first
    | (refine ⟨trivial, ?_⟩; gi_at_call 18; refine (callsIn_wide.2 (hP.out _ BA.out)).mono ?_; rintro e w2 ⟨B, v, rfl, hBw, hBlk, hRow, hb⟩)
    | fail)
  generalize ((w.alloc (.cells #[.slice none 0 0] 43)).alloc (.cells #[.bool false] 4)) = w1 at *
  have Y2 := Lib.hid ((X2.out.below hb X2.out.lt).alloc (.cells #[.slice none 0 0] 43))
  have Y3 := Lib.hid ((X3.out.below hb X3.out.lt).alloc (.cells #[.slice none 0 0] 43))
  have Y5 := Lib.hid (Blk.new w2 43 [.slice none 0 0])
  have BW := Lib.hid (((Only.of_below (BA.out.trans (hb.mono BA.out.size)) (fun _ => False)).alloc (.cells #[.slice none 0 0] 43)).below_all)
  have Z3 := Lib.hid (show (w2.alloc (.cells #[.slice none 0 0] 43)).heap.size = w2.heap.size + 1 by simp)
  have hBlk3 := hBlk.alloc (.cells #[.slice none 0 0] 43)
  have hRow3 := hRow.keep ((Only.refl w2 (fun _ => False)).alloc (.cells #[.slice none 0 0] 43)) (fun _ _ h => h)
  have hz1 := Z4.out
  have hz2 := hb.size
  have hbk : B < w2.heap.size := hBlk.lt
  obtain ⟨L, hL⟩ : ∃ L, L = w2.heap.size := ⟨_, rfl⟩
  rw [← hL] at Y5 Z3 ⊢
  have hrowb : Row (w2.alloc (.cells #[.slice none 0 0] 43)) (fun k => w1.heap.size ≤ k ∧ k < L) .i64 v (keysI S.now) := by
    have h := (hRow.mono (ok' := fun k => w1.heap.size ≤ k ∧ k < L) (fun b hb h => ⟨h, by omega⟩)).keep ((Only.refl w2 (fun _ => False)).alloc (.cells #[.slice none 0 0] 43)) (fun _ _ h => h)
    exact h
  have HBL := Lib.hid (show B < L by omega)
  have HLW := Lib.hid (show w.heap.size + 2 ≤ L by omega)
  clear hBlk hRow hRow3 hb hL hbk hz2
  generalize w2.alloc (.cells #[.slice none 0 0] 43) = w3 at *
  obtain ⟨n1, hn1⟩ : ∃ n1, n1 = w3.heap.size := ⟨_, rfl⟩
  obtain ⟨zs, hzs⟩ : ∃ zs : List (KS S), zs = (keysN S.now).attachWith (fun q => q < 728 ∧ (S.now q).isSome = true) (fun q hq => mem_keysN.1 hq) := ⟨_, rfl⟩
  have hzv : zs.map kv = keysN S.now := by rw [hzs]; exact List.attachWith_map_subtype_val ..
  have hzl : zs.length ≤ 728 := by have := congrArg List.length hzv; rw [List.length_map] at this; rw [this]; exact keysN_len _
  have hze : zs.map (fun x => (x.1 : Int)) = keysI S.now := by
    unfold keysI
    rw [← hzv, List.map_map]
    rfl
  have hrow2 : Row w3 (fun k => w1.heap.size ≤ k ∧ k < L) .i64 v (zs.map (fun x => (x.1 : Int))) := by
    rw [hze]
    exact hrowb
  obtain ⟨b, hbl, hbo, hseq⟩ := values_stops (fun x : KS S => (x.1 : Int)) 8 (by omega) B v zs w3 _ hBlk3 hrow2
  have hb1 : b ≠ L := by
    have := HBL.out
    rcases hbo with h | h
    · omega
    · omega
  have HZE := Lib.hid hze
  have hn2 : n1 = L + 1 := by rw [hn1]; exact Z3.out
  clear hzs hzv hrow2 hrowb hbo hP hze
  have HN1 := Lib.hid hn1
  refine wpIn_rangeFunc_ownF (α := KS S) rfl (by omega) (gf := 56) (lb := #[.pointer (some ⟨B, 0, none⟩)]) rfl trivial (enters_of Try.func56 (by kernel_rfl) rfl)
    (encs := fun (x : KS S) => #[.int .i64 (x.1 : Int)]) (Kp := fun X Y => Y.heap[b]? = X.heap[b]?) (S := fun ys => ys = zs) (Sp := fun pre => pre <+: zs) (N := zs.length) (w0 := w3) hseq
    (fun h1 h2 => h2.trans h1) (fun W l o o' hl ho _ _ => by
      have hg := grownBy_putObj' W l o'
      exact hg.block b (by have := (Array.getElem?_eq_some_iff.1 ho).1; omega) (fun e => by injection e with e; omega)) (Below.refl _ _) (fun _ => rfl)
    (fun (pre : List (KS S)) (W : World) => LI w n1 L (pre.map (fun x => (x.1 : Int))) W) (fun _ _ _ => False)
    (fun pre W W' row hI hg hr => LI.abides (fs := pre.map (fun x => (x.1 : Int))) hI hg (fun r e => by have := hr r e; rw [hn1]; exact this)) (fun _ _ _ _ _ hs _ _ => hs)
    ⟨_, Y2.out, Y3.out, Y5.out, World.ownsRow_nil _ _ _ _, BW.out, by omega, HLW.out, by omega⟩
    (fun (x : KS S) => { tmps := #[.pointer (some ⟨s, 0, none⟩), undef, .pointer (some ⟨w.heap.size, 0, none⟩), .pointer (some ⟨w.heap.size + 1, 0, none⟩), .func (.func 56) #[] #[.pointer (some ⟨B, 0, none⟩)], .pointer (some ⟨L, 0, none⟩), .int .i64 (x.1 : Int), .pointer (some ⟨s, 0, none⟩), .func (.func 56) #[] #[.pointer (some ⟨B, 0, none⟩)], .func (.func 56) #[] #[.pointer (some ⟨B, 0, none⟩)], .bool false, .func (.func 56) #[] #[.pointer (some ⟨B, 0, none⟩)], .int .i64 (x.1 : Int), undef, undef, undef, undef, undef, undef, undef, undef], defers := [] }) ?assign ?body ?done ?stop
  case assign =>
    intro l x W K hK
    gi_wp2
    exact hK
  case body =>
    rintro l pre ⟨q, hq, hqs⟩ W hI hlen
    dsimp only
    obtain ⟨fs, hfs⟩ : ∃ fs, fs = pre.map (fun x : KS S => (x.1 : Int)) := ⟨_, rfl⟩
    rw [← hfs] at hI
    have HNX := Lib.hid (show (pre ++ [(⟨q, hq, hqs⟩ : KS S)]).map (fun x => (x.1 : Int)) = fs ++ [(q : Int)] by rw [List.map_append, hfs]; rfl)
    have hfl : fs.length ≤ 727 := by rw [hfs, List.length_map]; omega
    obtain ⟨fv, hI⟩ := hI
    obtain ⟨Af, cf, rfl⟩ : ∃ Af cf, fv = .slice Af fs.length cf := by
      rcases hI.o7.2 with ⟨hv, h0⟩ | ⟨g, cap, cur, hv, _⟩
      · exact ⟨none, 0, by rw [hv, h0]⟩
      · exact ⟨_, _, hv⟩
    have HI := Lib.hid hI
    have c5 := hI.b5.cell_at 0 _ rfl
    have f5 := hI.b5.frozen 0
    obtain ⟨i0, hi0, hz0, hz1', hz2'⟩ := info_parts info3
    have hbn : b < n1 := by omega
    clear hI hfs
    gi_wp2_with (first
      | (gi_at_builtin; refine wpListIn_append_own_at _ rfl (.tmp 13) (.tmp 15) 43 rfl n1 3 i0 (.int .i64 0) 1 8 Try.underlying43 hi0 hz0 hz1' hz2' rfl (by decide) (.slice Af fs.length cf) fs.length (fs.map (Value.int .i64)) rfl (World.ownsRow.alloc HI.out.o7 _) ⟨W.heap.size, 0, none⟩ 1 1 [.int .i64 (q : Int)] rfl rfl (cell_one_new _ _ _) (by simp [Value.oneCell']) (by unfold maxLen; omega) (by omega) (by have := HI.out.size; simp; omega) ?_; intro v' w4 hown hg hnil hat
         obtain ⟨g', cap', rfl⟩ := ownsRow_succ hown
         have g5 := HI.out.at5 _ hg
         have d5 := g5.cell_at 0 _ rfl
         have e5 := g5.frozen 0
         have T := HI.out.fresh _ hg hown
         have T1 := Lib.hid T.1
         have KO1 := Lib.hid T.2.1
         have KB1 := Lib.hid (T.2.2 b hb1 hbn)
         clear hown hg hnil hat g5 T)
      | fail)
    refine ⟨KO1.out, KB1.out, ?_⟩
    show LI w n1 L ((pre ++ [(⟨q, hq, hqs⟩ : KS S)]).map (fun x => (x.1 : Int))) _
    rw [HNX.out]
    exact ⟨_, T1.out⟩
  case stop =>
    rintro D c pre W _ _ h _
    exact h.elim
  case done =>
    rintro D xs W hD rfl hI hK
    obtain ⟨fv, hI⟩ := hI
    rw [HZE.out] at hI
    obtain ⟨fs, hfs⟩ : ∃ fs, fs = keysI S.now := ⟨_, rfl⟩
    rw [← hfs] at hI
    have HFS := Lib.hid hfs
    clear hfs
    obtain ⟨Af, cf, rfl⟩ : ∃ Af cf, fv = .slice Af fs.length cf := by
      rcases hI.o7.2 with ⟨hv, h0⟩ | ⟨g, cap, cur, hv, _⟩
      · exact ⟨none, 0, by rw [hv, h0]⟩
      · exact ⟨_, _, hv⟩
    have HI := Lib.hid hI
    have c5 := hI.b5.cell_at 0 _ rfl
    have c2 := hI.b2.cell_at 0 _ rfl
    have c3 := hI.b3.cell_at 0 _ rfl
    have f2 := hI.b2.frozen 0
    have f3 := hI.b3.frozen 0
    clear hI
    gi_wp2
    have h1 := HI.out.two
    have h2 := HI.out.lt
    have hzw := HI.out.size
    have hbel := HI.out.below.size
    have hn9 := HN1.out
    have hK2 : ((W.setCell ⟨w.heap.size, 0, none⟩ (.slice Af fs.length cf)).setCell ⟨w.heap.size + 1, 0, none⟩ (.bool true)).heap[D]? = some (.deferred (some [])) := (Below.heap_setCell _ _ _ D (by show D ≠ w.heap.size + 1; omega)).trans ((Below.heap_setCell _ _ _ D (by show D ≠ w.heap.size; omega)).trans hK)
    have e2 := ((HI.out.b2.set_ 0 (.slice Af fs.length cf)).far (p := ⟨w.heap.size + 1, 0, none⟩) (by show w.heap.size ≠ w.heap.size + 1; omega) (.bool true))
    have e3 := ((HI.out.b3.far (p := ⟨w.heap.size, 0, none⟩) (by show w.heap.size + 1 ≠ w.heap.size; omega) (.slice Af fs.length cf)).set_ 0 (.bool true))
    have hblk : ∀ k, n1 ≤ k → ((W.setCell ⟨w.heap.size, 0, none⟩ (.slice Af fs.length cf)).setCell ⟨w.heap.size + 1, 0, none⟩ (.bool true)).heap[k]? = W.heap[k]? := fun k hk => (Below.heap_setCell _ _ _ k (by show k ≠ w.heap.size + 1; omega)).trans (Below.heap_setCell _ _ _ k (by show k ≠ w.heap.size; omega))
    have O2 := (((Only.of_below HI.out.below (fun k => w.heap.size ≤ k)).setCell (p := ⟨w.heap.size, 0, none⟩) (fun _ => Nat.le_refl _) (.slice Af fs.length cf)).setCell (p := ⟨w.heap.size + 1, 0, none⟩) (fun _ => by show w.heap.size ≤ w.heap.size + 1; omega) (.bool true))
    generalize (W.setCell ⟨w.heap.size, 0, none⟩ (.slice Af fs.length cf)).setCell ⟨w.heap.size + 1, 0, none⟩ (.bool true) = W2 at *
    refine ⟨by simp, .inl ⟨_, _, rfl, run_takeDeferred hK2, ?_⟩⟩
    have gk := grownBy_putObj' W2 D (.deferred none)
    have x2 : (W2.putObj D (.deferred none)).cell? ⟨w.heap.size, 0, none⟩ = some (.slice Af fs.length cf) := (World.cell?_of_block (gk.block w.heap.size e2.lt (fun e => by injection e with e; omega))).trans (e2.cell_at 0 _ rfl)
    have x3 : (W2.putObj D (.deferred none)).cell? ⟨w.heap.size + 1, 0, none⟩ = some (.bool true) := (World.cell?_of_block (gk.block (w.heap.size + 1) e3.lt (fun e => by injection e with e; omega))).trans (e3.cell_at 0 _ rfl)
    have bel : Below w.heap.size w (W2.putObj D (.deferred none)) := (O2.step (Only.of_grown gk) (fun k _ h => by injection h with h; omega)).below (Nat.le_refl _) (fun k hk h => by omega)
    have o7 : (W2.putObj D (.deferred none)).ownsRow n1 3 1 (.slice Af fs.length cf) fs.length (fs.map (Value.int .i64)) := own_of_block HI.out.o7 (fun b hb => by
      obtain ⟨hb1, cells, hc⟩ := own_cells HI.out.o7 hb
      refine (gk.block b ?_ (fun e => ?_)).trans (hblk b hb1)
      · have h3 := hblk b hb1
        rw [hc] at h3
        exact (Array.getElem?_eq_some_iff.1 h3).1
      · injection e with e
        rw [← e, hc] at hK
        cases hK)
    generalize W2.putObj D (.deferred none) = W3 at *
    have hres : Try.f17.results = #[.cell 2 43, .cell 3 4] := by kernel_rfl
    refine ⟨.tuple #[.slice Af fs.length cf, .bool true], ?_, .slice Af fs.length cf, rfl, ?_, bel⟩
    · simp [results, hres, asAddr, go_sem, x2, x3]
    · rw [← HFS.out]
      exact own_weaken o7 (by omega)
theorem listed_c {w : World} {own : Nat → Nat} {base g s : Nat} {S : SV} (h : St w own base g s S) :
    Calls Try.prog 17 #[.pointer (some ⟨s, 0, none⟩)] w fun e w' => ∃ v, e = .returned (.tuple #[v, .bool true]) ∧ Row w' (fun k => w.heap.size ≤ k) .i64 v (keysI S.now) ∧ Below w.heap.size w w' := by
  refine (callsIn_wide.1 (listed_live h)).mono ?_
  rintro e w' ⟨fv, rfl, h1, h2⟩
  refine ⟨fv, rfl, ?_, h2⟩
  have h3 : (Kd.int .i64).R 3 w' w.heap.size (fun _ => True) fv (keysI S.now) := Kd.R_of_own (enc := Value.int .i64) (h1 := fun _ => rfl) h1 (fun _ _ => trivial)
  exact (Row.of_R (Kd.R_bound h3) (by have := keysI_len S.now; omega)).mono (fun b _ hb => hb.2.1)
end Go.Proofs.Ytochnokfcfmgnaa.St
end

section
/- Seat F: what a store holds, told. -/
namespace Go.Proofs.Ytochnokfcfmgnaa.St
open Go Go.RowKit Go.Proofs.Ytochnokfcfmgnaa.Mem Go.Proofs.YtochnokfcfmgnaaW.PrintWords Go.Proofs.Ytochnokfcfmgnaa.Dk Go.Maps Go.ChangeMaps Go.Proofs.Ytochnokfcfmgnaa.Sh Go.Proofs.Ytochnokfcfmgnaa.Sp
set_option linter.unusedVariables false
set_option linter.unusedSimpArgs false
set_option maxRecDepth 100000
set_option maxHeartbeats 4000000
open PShadowCrashes (S89 k89 k89_mkM)
def toldL (f : PM) (ks : List Nat) : List S89 := ks.map (fun q => (⟨((q : Nat) : Int), dataOf f q⟩ : S89))
/-- What a store holds. -/
def toldV (f : PM) : List S89 := toldL f (keysN f)
end Go.Proofs.Ytochnokfcfmgnaa.St
end

section
/- Seat F: Room, Epoch, same, walked. -/
namespace Go.Proofs.Ytochnokfcfmgnaa.St
open Go Go.RowKit Go.Proofs.Ytochnokfcfmgnaa.Mem Go.Proofs.YtochnokfcfmgnaaW.PrintWords Go.Proofs.Ytochnokfcfmgnaa.Dk Go.Maps Go.ChangeMaps Go.Proofs.Ytochnokfcfmgnaa.Sh Go.Proofs.Ytochnokfcfmgnaa.Sp
set_option linter.unusedVariables false
set_option linter.unusedSimpArgs false
set_option maxRecDepth 100000
set_option maxHeartbeats 4000000
open PShadowCrashes (S89 k89 rd_T89 z89)
/-- Rows of pages that lie still. -/
def Pages (w : World) (own : Nat → Nat) (v : Value) (l : List S89) : Prop := k89.R 89 w 0 (fun b => own b = 0) v l ∧ l.length ≤ 1000 ∧ ∀ x ∈ l, x.f1.length ≤ 116
theorem Pages.own' {w w' : World} {own : Nat → Nat} {v : Value} {l : List S89} (h : Pages w own v l) {T : Nat → Prop} (ho : Only w w' T) (hT : ∀ b, own b = 0 → ¬ T b) (j : Nat) : Pages w' (upd own w.heap.size j) v l := by
  refine ⟨?_, h.2⟩
  have h1 := Kd.R_mono (Kd.R_bound h.1) (ok' := fun b => own b = 0 ∧ b < w.heap.size) (fun b hb => ⟨hb.1, hb.2.2.1⟩)
  exact Kd.R_mono (Kd.R_step h1 (fun b hb hl => ho.block b hl (hT b hb.1))) (fun b hb => by rw [upd_lt hb.2]; exact hb.1)
end Go.Proofs.Ytochnokfcfmgnaa.St
end

section
/- Seat F: what a commit needs, and what it leaves, plain. -/
namespace Go.Proofs.Ytochnokfcfmgnaa.St
open Go Go.RowKit Go.Proofs.Ytochnokfcfmgnaa.Mem Go.Proofs.YtochnokfcfmgnaaW.PrintWords Go.Proofs.Ytochnokfcfmgnaa.Dk Go.Maps Go.ChangeMaps Go.Proofs.Ytochnokfcfmgnaa.Sh Go.Proofs.Ytochnokfcfmgnaa.Sp
set_option linter.unusedVariables false
set_option linter.unusedSimpArgs false
set_option maxRecDepth 100000
set_option maxHeartbeats 1000000
end Go.Proofs.Ytochnokfcfmgnaa.St
end

section
/- Seat F: pages lie apart; how many are free, plain. -/
namespace Go.Proofs.Ytochnokfcfmgnaa.St
open Go Go.RowKit Go.Proofs.Ytochnokfcfmgnaa.Mem Go.Proofs.YtochnokfcfmgnaaW.PrintWords Go.Proofs.Ytochnokfcfmgnaa.Dk Go.Maps Go.ChangeMaps Go.Proofs.Ytochnokfcfmgnaa.Sh Go.Proofs.Ytochnokfcfmgnaa.Sp
set_option linter.unusedVariables false
set_option linter.unusedSimpArgs false
set_option maxRecDepth 100000
set_option maxHeartbeats 1000000
/-- What is committed lies apart. -/
structure Inj (S : SV) : Prop where
  inj : ∀ i j p p', S.kept i = some p → S.kept j = some p' → p.1 = p'.1 → i = j
  dis : ∀ i p, S.kept i = some p → ((p.1 : Nat) : Int) ∉ S.tabs
  nod : S.tabs.Nodup
def placeOf (f : PM) (q : Nat) : Nat := match f q with | some p => p.1 | none => 0
theorem Inj.put {S : SV} (h : Inj S) (i : Int) (d : List Int) : Inj (putV S i d) := by
  unfold putV; split
  · exact ⟨h.inj, h.dis, h.nod⟩
  · exact h
theorem Inj.drop {S : SV} (h : Inj S) (i : Int) : Inj (dropV S i) := by
  unfold dropV; split
  · exact ⟨h.inj, h.dis, h.nod⟩
  · exact h
theorem Inj.back {S : SV} (h : Inj S) : Inj { S with now := S.kept } := ⟨h.inj, h.dis, h.nod⟩
end Go.Proofs.Ytochnokfcfmgnaa.St
end

section
/- Seat F: ShadowRoom, walked. -/
namespace Go.Proofs.Ytochnokfcfmgnaa.St
open Go Go.RowKit Go.Proofs.Ytochnokfcfmgnaa.Mem Go.Proofs.YtochnokfcfmgnaaW.PrintWords Go.Proofs.Ytochnokfcfmgnaa.Dk Go.Maps Go.ChangeMaps Go.Proofs.Ytochnokfcfmgnaa.Sh Go.Proofs.Ytochnokfcfmgnaa.Sp
set_option linter.unusedVariables false
set_option linter.unusedSimpArgs false
set_option maxRecDepth 100000
set_option maxHeartbeats 4000000
open PShadowCrashes (S89 k89)
/-- A script without its commits. -/
noncomputable def moreS (c : Nat) (S : SV) (o : OpV) : SV := if o.1 = 3 then S else opS c S o
noncomputable def moreV (c : Nat) (more : List OpV) (S : SV) : SV := more.foldl (moreS c) S
end Go.Proofs.Ytochnokfcfmgnaa.St
end
