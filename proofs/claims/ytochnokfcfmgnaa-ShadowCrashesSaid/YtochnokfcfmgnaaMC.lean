/- Texts merged: a section each. -/
import Derived.Test.YtochnokfcfmgnaaMQ
import Derived.RangeFuncNested
import Derived.RangeFuncBound
import Derived.RangeFuncCalls
import Derived.RangeFuncLeaves
import Derived.RangeFuncFrom
import Derived.Shelf.Abstract
import Derived.Shelf.RegionOpen
import Derived.WalkKit
import Derived.OwnWalkIn
import Derived.TacticsInMore
import Derived.LoopNIn
import Derived.LoopIn
import Derived.Maps.AppendAt
import Derived.Maps.OwnIn
import Derived.BigRegionIn
import Derived.Maps.RangeWalk
import Derived.Deep.RegionLaw
import Derived.Deep.RegionHeld3
section
/- Seat F: the iterator over a slice of numbers; a store's table, walked. -/
namespace Go.Proofs.Ytochnokfcfmgnaa.St
open Go Go.RowKit Go.Shelf Go.Proofs.Ytochnokfcfmgnaa.Mem Go.Proofs.YtochnokfcfmgnaaW.PrintWords Go.Proofs.Ytochnokfcfmgnaa.Dk Go.Maps Go.ChangeMaps Go.Proofs.Ytochnokfcfmgnaa.Sh
set_option linter.unusedVariables false
set_option linter.unusedSimpArgs false
attribute [local go_sem] Oper.semAt_some
set_option maxRecDepth 100000
set_option maxHeartbeats 4000000
/-- slices.Values's closure, for every loop body that keeps the block of the numbers. -/
theorem values1_in {α : Type} (e : α → Int) (F : Fence) (n : Nat) (hf : F.fn 56) (hro : F.round = none) (hn : 1 ≤ n) (l Bs b off cap : Nat) (zs : List α) (hreach : zs.length ≤ 100000) (J Jx : List α → World → Prop)
    (hY : ∀ pre x W, J pre W → pre.length < zs.length → YieldAt F (n - 1) Try.prog l #[.int .i64 (e x)] W fun en W' =>
      (en = .returned (.bool true) ∧ J (pre ++ [x]) W' ∧ W'.heap[b]? = W.heap[b]?) ∨ (en = .returned (.bool false) ∧ Jx (pre ++ [x]) W'))
    (W : World) (hBs : W.cell? ⟨Bs, 0, none⟩ = some (.slice (some ⟨b, off, none⟩) zs.length cap)) (hc : ∀ j (hj : j < zs.length), W.cell? ⟨b, off + j, none⟩ = some (.int .i64 (e zs[j]))) (h0 : J [] W) :
    CallsIn F n Try.prog 56 #[.func (.yield l) #[] #[], .pointer (some ⟨Bs, 0, none⟩)] W fun en W' => (∃ v, en = .returned v) ∧ ((∃ ys, ys = zs ∧ J ys W') ∨ (∃ pre, pre <+: zs ∧ Jx pre W')) := by
  refine callsIn_of_wp Try.func56 rfl hf ?_ hro
  simp only [Try.ntmps56, List.size_toArray, List.length_cons, List.length_nil, Nat.reduceAdd, Nat.reduceSub, Array.replicate_succ, Array.replicate_zero, List.push_toArray, List.append_toArray, List.nil_append, List.cons_append]
  obtain ⟨len, hlen⟩ : ∃ len, len = zs.length := ⟨_, rfl⟩
  rw [← hlen] at hBs hreach
  gi_wp2
  gi_loopw [7] (fun i wr => ∃ k : Nat, k ≤ len ∧ i = .int .i64 k ∧ J (zs.take k) wr ∧ wr.heap[b]? = W.heap[b]?)
    (fun i _ => len - (intOf i).toNat)
  case atStart => exact ⟨0, Nat.zero_le _, rfl, h0, rfl⟩
  case round =>
    obtain ⟨k, hk, rfl, hJs, hnx⟩ := hrel
    have hki : (k : Int) ≤ 100000 := by omega
    by_cases hlt : k < len
    · have hlz : k < zs.length := by omega
      obtain ⟨x, hx⟩ : ∃ x, x = zs[k] := ⟨_, rfl⟩
      obtain ⟨fn, tmps, assign, body, hy, hR⟩ := hY _ x wr hJs (by rw [List.length_take]; omega)
      have hcx : wr.cell? ⟨b, off + k, none⟩ = some (.int .i64 (e x)) := by
        rw [hx]
        exact (World.cell?_of_block (w := W) (a := ⟨b, off + k, none⟩) hnx).trans (hc k hlz)
      obtain ⟨c, hce⟩ : ∃ c, c = e x := ⟨_, rfl⟩
      rw [← hce] at hcx hy
      have hli : (k : Int) < (len : Int) := by omega
      have HX := Lib.hid hx
      clear hx hce
      gi_wp2
      refine hR.mono ?_
      rintro e W3 (⟨rfl, hJ3, hk3⟩ | ⟨rfl, hJx3⟩)
      · gi_wp2
        go_roundw
        case rel => exact ⟨k + 1, by omega, by simp, by rw [List.take_succ_eq_append_getElem hlz, ← HX.out]; exact hJ3, hk3.trans hnx⟩
        case measure => simp [intOf]; omega
      · gi_wp2
        refine bodyPost_ret (results_none rfl _ _ _) rfl ?_
        exact ⟨⟨_, rfl⟩, .inr ⟨_, ⟨zs.drop (k + 1), by rw [HX.out, ← List.take_succ_eq_append_getElem hlz]; exact List.take_append_drop _ _⟩, hJx3⟩⟩
    · have hli : ¬ (k : Int) < (len : Int) := by omega
      gi_wp2
      go_end0
      have e9 : zs.take k = zs := List.take_of_length_le (by omega)
      rw [e9] at hJs
      exact ⟨⟨_, rfl⟩, .inl hJs⟩
theorem values_stops {α : Type} (e : α → Int) (n : Nat) (hn : 1 ≤ n) (Bs : Nat) (v : Value) (zs : List α) (w : World) (ok : Nat → Prop) (hB : Blk w Bs 43 [v]) (hr : Row w ok .i64 v (zs.map e)) :
    ∃ b, b < w.heap.size ∧ (ok b ∨ b = Bs) ∧ SeqStopsK Fence.wide n Try.prog 56 #[.pointer (some ⟨Bs, 0, none⟩)] (fun x : α => #[Value.int .i64 (e x)]) (fun A C => C.heap[b]? = A.heap[b]?) (fun ys => ys = zs) (fun pre => pre <+: zs) zs.length w := by
  obtain ⟨A, c, rfl, h1, h2, h3⟩ := hr
  rw [List.length_map] at h1 h2
  rcases h3 with ⟨rfl, rfl⟩ | ⟨b, o, rfl, hb, hl, hc⟩
  · obtain rfl : zs = [] := List.length_eq_zero_iff.1 (by omega)
    exact ⟨Bs, hB.lt, .inr rfl, fun l J Jx W hW _ _ hY h0 => (values1_nil_in Fence.wide n trivial rfl l Bs (fun _ => J []) W ((hW.cell (p := ⟨Bs, 0, none⟩) hB.lt).trans (hB.cell_at 0 _ rfl)) h0).mono fun e W' ⟨he, hj⟩ => ⟨he, .inl ⟨[], rfl, hj⟩⟩⟩
  · refine ⟨b, hl, .inl hb, fun l J Jx W hW _ _ hY h0 => ?_⟩
    refine values1_in e Fence.wide n trivial rfl hn l Bs b o c zs h2 J Jx hY W ?_ (fun j hj => ?_) h0
    · have := (hW.cell (p := ⟨Bs, 0, none⟩) hB.lt).trans (hB.cell_at 0 _ rfl)
      rw [List.length_map] at this
      exact this
    · have h4 := hc j (by rw [List.length_map]; exact hj)
      rw [List.getElem_map] at h4
      exact (hW.cell (p := ⟨b, o + j, none⟩) hl).trans h4
end Go.Proofs.Ytochnokfcfmgnaa.St
end

section
/- Seat F: a store's table, walked. -/
namespace Go.Proofs.Ytochnokfcfmgnaa.St
open Go Go.RowKit Go.Shelf Go.Proofs.Ytochnokfcfmgnaa.Mem Go.Proofs.YtochnokfcfmgnaaW.PrintWords Go.Proofs.Ytochnokfcfmgnaa.Dk Go.Maps Go.ChangeMaps Go.Proofs.Ytochnokfcfmgnaa.Sh Go.Proofs.Ytochnokfcfmgnaa.Sp
set_option linter.unusedVariables false
set_option linter.unusedSimpArgs false
attribute [local go_sem] Oper.semAt_some
set_option maxRecDepth 100000
set_option maxHeartbeats 4000000
/-- One page more in the table: its number, its place; a page that lies nowhere yet lies at the next place that is handed in. -/
def tabStep (f : PM) (pl : List Int) (acc : List Int × List Int) (q : Nat) : List Int × List Int :=
  match f q with
  | none => acc
  | some p => (acc.1 ++ enc q ++ enc (if p.1 = 0 then (pl[acc.2.length]?.getD 0).toNat else p.1), if p.1 = 0 then acc.2 ++ [(q : Int)] else acc.2)
def tabF (f : PM) (pl : List Int) (ks : List Nat) : List Int × List Int := ks.foldl (tabStep f pl) ([], [])
theorem tabF_snoc (f : PM) (pl : List Int) (ks : List Nat) (q : Nat) : tabF f pl (ks ++ [q]) = tabStep f pl (tabF f pl ks) q := by unfold tabF; rw [List.foldl_append]; rfl
/-- A table's bytes, and the pages that lie nowhere yet. -/
def tab (f : PM) (pl : List Int) : List Int × List Int := tabF f pl (keysN f)
structure Small (f : PM) (pl : List Int) : Prop where
  pl : ∀ y ∈ pl, 0 ≤ y ∧ y < 34359738368
  f : ∀ q p, f q = some p → q < 728 ∧ p.1 < 34359738368
theorem enc5 {n : Nat} (h : n < 34359738368) : (enc n).length ≤ 5 := enc_len 4 n (by simpa using h)
theorem Small.at_ {f : PM} {pl : List Int} (h : Small f pl) (k : Nat) : (pl[k]?.getD 0).toNat < 34359738368 := by
  cases hk : pl[k]? with
  | none => simp
  | some y => have := h.pl y (List.mem_of_getElem? hk); simp; omega
theorem tabF_len {f : PM} {pl : List Int} (h : Small f pl) : ∀ (n : Nat) (ks : List Nat), ks.length = n → (tabF f pl ks).1.length ≤ 10 * n ∧ (tabF f pl ks).2.length ≤ n
  | 0, ks, e => by
    obtain rfl : ks = [] := List.length_eq_zero_iff.1 e
    exact ⟨Nat.le_refl _, Nat.le_refl _⟩
  | n + 1, ks, e => by
    obtain ⟨l, q, rfl⟩ : ∃ l q, ks = l ++ [q] := by
      have hne : ks ≠ [] := by intro h; rw [h] at e; cases e
      exact ⟨ks.dropLast, ks.getLast hne, (List.dropLast_concat_getLast hne).symm⟩
    have ih := tabF_len h n l (by simpa using e)
    rw [tabF_snoc]
    unfold tabStep
    cases hf : f q with
    | none => exact ⟨by have := ih.1; dsimp only; omega, by have := ih.2; dsimp only; omega⟩
    | some p =>
      obtain ⟨h1, h2⟩ := h.f q p hf
      have e1 := enc5 (n := q) (by omega)
      have e2 : (enc (if p.1 = 0 then (pl[(tabF f pl l).2.length]?.getD 0).toNat else p.1)).length ≤ 5 := enc5 (by split; exact h.at_ _; exact h2)
      dsimp only
      refine ⟨by rw [List.length_append, List.length_append]; have := ih.1; omega, ?_⟩
      split
      · rw [List.length_append]; have := ih.2; simp; omega
      · have := ih.2; omega
theorem info3 : (Try.prog.info? 3).map (fun i => (i.zero, i.size, i.bytes)) = some (some (.int .i64 0), 1, 8) := by kernel_rfl
/-- A row of one's own hangs on its block alone. -/
theorem own_of_block {w w' : World} {base e s n : Nat} {v : Value} {xs : List Value} (h : w.ownsRow base e s v n xs) (hb : ∀ b, v.ownBlock = some b → w'.heap[b]? = w.heap[b]?) : w'.ownsRow base e s v n xs := by
  refine ⟨h.1, ?_⟩
  rcases h.2 with h2 | ⟨g, cap, cur, rfl, hbase, hg, h3⟩
  · exact .inl h2
  · exact .inr ⟨g, cap, cur, rfl, hbase, (hb g rfl).trans hg, h3⟩
theorem own_cells {w : World} {base e s n b : Nat} {v : Value} {xs : List Value} (h : w.ownsRow base e s v n xs) (hb : v.ownBlock = some b) : base ≤ b ∧ ∃ cells, w.heap[b]? = some (.cells cells e (0, 0)) := by
  rcases h.2 with ⟨rfl, _⟩ | ⟨g, cap, cur, rfl, hbase, hg, h3⟩
  · cases hb
  · have : g = b := by simpa [Value.ownBlock] using hb
    subst this
    exact ⟨hbase, _, hg⟩
/-- Which blocks the bytes may lie in. -/
def okB (W : World) (n1 k : Nat) : Prop := n1 ≤ k ∧ k < W.heap.size ∧ ∃ cells, W.heap[k]? = some (.cells cells 5 (0, 0))
theorem R_okB {W : World} {n1 : Nat} {ok : Nat → Prop} {v : Value} {xs : List Int} (h : (Kd.int .u8).R 5 W n1 ok v xs) : (Kd.int .u8).R 5 W n1 (okB W n1) v xs :=
  Kd.R_mono (Kd.R_bound h) (fun k hk => ⟨hk.2.1, hk.2.2.1, by
    obtain ⟨q, hq, cells, hc⟩ := hk.2.2.2
    obtain rfl : q = 5 := by
      rcases List.mem_cons.1 hq with h | h
      · exact h
      · cases h
    exact ⟨cells, hc⟩⟩)
/-- Between two rounds. -/
structure TIx (w : World) (n1 s : Nat) (pv : Value) (bs fs : List Int) (bv fv : Value) (W : World) : Prop where
  b2 : Blk W w.heap.size 25 [.pointer (some ⟨s, 0, none⟩)]
  b3 : Blk W (w.heap.size + 1) 43 [pv]
  b4 : Blk W (w.heap.size + 1 + 1) 23 [bv]
  b5 : Blk W (w.heap.size + 1 + 1 + 1) 43 [fv]
  r6 : (Kd.int .u8).R 5 W n1 (fun _ => True) bv bs
  o7 : W.ownsRow n1 3 1 fv fs.length (fs.map (Value.int .i64))
  below : Below w.heap.size w W
  size : n1 ≤ W.heap.size
  four : w.heap.size + 4 ≤ n1
def TI (w : World) (n1 s : Nat) (pv : Value) (tb : List Int × List Int) (W : World) : Prop := ∃ bv fv, TIx w n1 s pv tb.1 tb.2 bv fv W
theorem TI.abides {w W W' : World} {n1 s : Nat} {pv : Value} {tb : List Int × List Int} {row : Option Nat} (h : TI w n1 s pv tb W) (hg : W.grownBy W' row) (hr : ∀ r, row = some r → n1 ≤ r ∧ ∃ o : Obj, W.heap[r]? = some o ∧ o.isCells = false) : TI w n1 s pv tb W' := by
  have key : ∀ (k : Nat) (cells : Array Value) (t : TypeId) (z : Nat × Nat), W.heap[k]? = some (.cells cells t z) → W'.heap[k]? = W.heap[k]? := fun k cells t z hk => by
    refine hg.block k (Array.getElem?_eq_some_iff.1 hk).1 (fun e => ?_)
    obtain ⟨_, o, ho, hc⟩ := hr k e.symm
    rw [hk] at ho
    injection ho with ho
    rw [← ho] at hc
    cases hc
  obtain ⟨bv, fv, h⟩ := h
  have hn := h.four
  refine ⟨bv, fv, (key _ _ _ _ h.b2).trans h.b2, (key _ _ _ _ h.b3).trans h.b3, (key _ _ _ _ h.b4).trans h.b4, (key _ _ _ _ h.b5).trans h.b5, Kd.R_mono (Kd.R_step (R_okB h.r6) (fun k hk _ => by obtain ⟨cells, hc⟩ := hk.2.2; exact key _ _ _ _ hc)) (fun _ _ => trivial), own_of_block h.o7 (fun b hb => by obtain ⟨_, cells, hc⟩ := own_cells h.o7 hb; exact key _ _ _ _ hc), ?_, Nat.le_trans h.size hg.size, h.four⟩
  exact h.below.trans ⟨hg.os, hg.tape, hg.output, hg.size, fun k hk => hg.block k (by have := h.below.size; omega) (fun e => by have := (hr k e.symm).1; omega)⟩
theorem okB_then {W W1 : World} {n1 k : Nat} (hk : Kept W W1 (okB W n1)) (h : okB W1 n1 k) : okB W n1 k ∨ W.heap.size ≤ k := by
  by_cases hl : k < W.heap.size
  · by_cases ho : okB W n1 k
    · exact .inl ho
    · obtain ⟨h1, h2, cells, hc⟩ := h
      rw [hk.2 k hl ho] at hc
      exact .inl ⟨h1, hl, cells, hc⟩
  · exact .inr (by omega)
/-- The bytes are other. -/
theorem TIx.bytes {w W W2 : World} {n1 s : Nat} {pv bv fv bv2 : Value} {bs fs bs2 : List Int} (h : TIx w n1 s pv bs fs bv fv W) (hk : Kept W W2 (okB W n1)) (hb : Below n1 W W2) (r : (Kd.int .u8).R 5 W2 n1 (fun _ => True) bv2 bs2) :
    TIx w n1 s pv bs2 fs bv2 fv (W2.setCell ⟨w.heap.size + 1 + 1, 0, none⟩ bv2) ∧ KeepsOthers W (W2.setCell ⟨w.heap.size + 1 + 1, 0, none⟩ bv2) ∧ ∀ b, w.heap.size + 4 ≤ b → b < n1 → (W2.setCell ⟨w.heap.size + 1 + 1, 0, none⟩ bv2).heap[b]? = W.heap[b]? := by
  have hn := h.four
  have hsz := h.size
  have q2 := (h.b2.below hb (by omega)).far (p := ⟨w.heap.size + 1 + 1, 0, none⟩) (by show w.heap.size ≠ w.heap.size + 1 + 1; omega) bv2
  have q3 := (h.b3.below hb (by omega)).far (p := ⟨w.heap.size + 1 + 1, 0, none⟩) (by show w.heap.size + 1 ≠ w.heap.size + 1 + 1; omega) bv2
  have q4 := (h.b4.below hb (by omega)).set_ 0 bv2
  have q5 := (h.b5.below hb (by omega)).far (p := ⟨w.heap.size + 1 + 1, 0, none⟩) (by show w.heap.size + 1 + 1 + 1 ≠ w.heap.size + 1 + 1; omega) bv2
  have hfar : ∀ k, k ≠ w.heap.size + 1 + 1 → (W2.setCell ⟨w.heap.size + 1 + 1, 0, none⟩ bv2).heap[k]? = W2.heap[k]? := fun k hk => Below.heap_setCell W2 ⟨w.heap.size + 1 + 1, 0, none⟩ bv2 k hk
  have hw : Below w.heap.size w W2 := h.below.trans (hb.mono (by omega))
  refine ⟨⟨q2, q3, q4, q5, Kd.R_step (Kd.R_mono (R_okB r) (fun k hk => hk)) (fun k hk _ => hfar k (by have := hk.1; omega)) |> fun z => Kd.R_mono z (fun _ _ => trivial), ?_, hw.setCell (p := ⟨w.heap.size + 1 + 1, 0, none⟩) (by show w.heap.size ≤ w.heap.size + 1 + 1; omega) bv2, by simp; exact Nat.le_trans hsz hb.size, h.four⟩, ?_, fun b h1 h2 => (hfar b (by omega)).trans (hb.block b h2)⟩
  · refine own_of_block h.o7 (fun b hb2 => ?_)
    obtain ⟨h1, cells, hc⟩ := own_cells h.o7 hb2
    refine (hfar b (by omega)).trans (hk.2 b (Array.getElem?_eq_some_iff.1 hc).1 (fun ho => ?_))
    obtain ⟨_, _, cells2, hc2⟩ := ho
    rw [hc] at hc2
    injection hc2 with hc2
    injection hc2 with _ hc2 _
    cases hc2
  · refine KeepsOthers.trans ⟨hk.1, fun k o ho hc => ?_⟩ (KeepsOthers.setCell _ _ _)
    rw [hk.2 k (Array.getElem?_eq_some_iff.1 ho).1 (fun h2 => by
      obtain ⟨_, _, cells, hc2⟩ := h2
      rw [ho] at hc2
      injection hc2 with hc2
      rw [hc2] at hc
      cases hc)]
    exact ho
/-- One page more that lies nowhere yet. -/
theorem TIx.fresh {w W w3 : World} {n1 s : Nat} {pv bv fv fv2 : Value} {bs fs : List Int} {q : Int} (h : TIx w n1 s pv bs fs bv fv W) (o : Obj) (hg : (W.alloc o).grownBy w3 fv.ownBlock) (ho : w3.ownsRow n1 3 1 fv2 (fs.length + 1) (fs.map (Value.int .i64) ++ [.int .i64 q])) :
    TIx w n1 s pv bs (fs ++ [q]) bv fv2 (w3.setCell ⟨w.heap.size + 1 + 1 + 1, 0, none⟩ fv2) ∧ KeepsOthers W (w3.setCell ⟨w.heap.size + 1 + 1 + 1, 0, none⟩ fv2) ∧ ∀ b, w.heap.size + 4 ≤ b → b < n1 → (w3.setCell ⟨w.heap.size + 1 + 1 + 1, 0, none⟩ fv2).heap[b]? = W.heap[b]? := by
  have hn := h.four
  have hsz := h.size
  have hblk : ∀ k, k < W.heap.size → fv.ownBlock ≠ some k → w3.heap[k]? = W.heap[k]? := fun k hk hne => (hg.block k (by simp; omega) (fun e => hne e.symm)).trans (Below.heap_alloc W o k hk)
  have hlow : ∀ k, k < n1 → fv.ownBlock ≠ some k := fun k hk e => by have := (own_cells h.o7 e).1; omega
  have hfar : ∀ k, k ≠ w.heap.size + 1 + 1 + 1 → (w3.setCell ⟨w.heap.size + 1 + 1 + 1, 0, none⟩ fv2).heap[k]? = w3.heap[k]? := fun k hk => Below.heap_setCell w3 ⟨w.heap.size + 1 + 1 + 1, 0, none⟩ fv2 k hk
  have key : ∀ k, k < n1 → w3.heap[k]? = W.heap[k]? := fun k hk => hblk k (by omega) (hlow k hk)
  have q2 := (show Blk w3 _ _ _ from (key _ (by omega)).trans h.b2).far (p := ⟨w.heap.size + 1 + 1 + 1, 0, none⟩) (by show w.heap.size ≠ w.heap.size + 1 + 1 + 1; omega) fv2
  have q3 := (show Blk w3 _ _ _ from (key _ (by omega)).trans h.b3).far (p := ⟨w.heap.size + 1 + 1 + 1, 0, none⟩) (by show w.heap.size + 1 ≠ w.heap.size + 1 + 1 + 1; omega) fv2
  have q4 := (show Blk w3 _ _ _ from (key _ (by omega)).trans h.b4).far (p := ⟨w.heap.size + 1 + 1 + 1, 0, none⟩) (by show w.heap.size + 1 + 1 ≠ w.heap.size + 1 + 1 + 1; omega) fv2
  have q5 := (show Blk w3 _ _ _ from (key _ (by omega)).trans h.b5).set_ 0 fv2
  have hs3 : W.heap.size ≤ w3.heap.size := Nat.le_trans (by simp) hg.size
  have hw : Below w.heap.size w w3 := h.below.trans ⟨hg.os, hg.tape, hg.output, hs3, fun k hk => key k (by omega)⟩
  refine ⟨⟨q2, q3, q4, q5, ?_, ?_, hw.setCell (p := ⟨w.heap.size + 1 + 1 + 1, 0, none⟩) (by show w.heap.size ≤ w.heap.size + 1 + 1 + 1; omega) fv2, by simp; omega, h.four⟩, ?_, fun b h1 h2 => (hfar b (by omega)).trans (key b h2)⟩
  · refine Kd.R_mono (Kd.R_step (R_okB h.r6) (fun k hk hl => ?_)) (fun _ _ => trivial)
    refine (hfar k (by have := hk.1; omega)).trans (hblk k hl (fun e => ?_))
    obtain ⟨_, cells, hc⟩ := own_cells h.o7 e
    obtain ⟨_, _, cells2, hc2⟩ := hk
    rw [hc] at hc2
    injection hc2 with hc2
    injection hc2 with _ hc2 _
    cases hc2
  · have e1 : (fs ++ [q]).length = fs.length + 1 := by simp
    have e2 : (fs ++ [q]).map (Value.int .i64) = fs.map (Value.int .i64) ++ [.int .i64 q] := by simp
    rw [e1, e2]
    exact own_of_block ho (fun b hb => hfar b (by have := (own_cells ho hb).1; omega))
  · refine KeepsOthers.trans ⟨hs3, fun k o' ho' hc => ?_⟩ (KeepsOthers.setCell _ _ _)
    have hk := (Array.getElem?_eq_some_iff.1 ho').1
    rw [hblk k hk (fun e => by
      obtain ⟨_, cells, hc2⟩ := own_cells h.o7 e
      rw [ho'] at hc2
      injection hc2 with hc2
      rw [hc2] at hc
      cases hc)]
    exact ho'
/-- The box of the pages that lie nowhere yet, ahead of the store. -/
theorem TIx.at5 {w W w3 : World} {n1 s : Nat} {pv bv fv : Value} {bs fs : List Int} (h : TIx w n1 s pv bs fs bv fv W) (o : Obj) (hg : (W.alloc o).grownBy w3 fv.ownBlock) : Blk w3 (w.heap.size + 1 + 1 + 1) 43 [fv] := by
  have hn := h.four
  have hsz := h.size
  exact (hg.block _ (by simp; omega) (fun e => by have := (own_cells h.o7 e.symm).1; omega)).trans ((Below.heap_alloc W o _ (by omega)).trans h.b5)
theorem field0 (x y : Value) (W : World) : (Instr.field 72 (.agg #[x, y]) 0).run Try.prog W = .ok x W := by first | rfl | kernel_rfl
theorem field1 (x y : Value) (W : World) : (Instr.field 72 (.agg #[x, y]) 1).run Try.prog W = .ok y W := by first | rfl | kernel_rfl
/-- A world of which only the first n blocks are there. -/
def cutW (W : World) (n : Nat) : World := { W with heap := W.heap.extract 0 n }
theorem cutW_size {W : World} {n : Nat} (h : n ≤ W.heap.size) : (cutW W n).heap.size = n := by simp [cutW]; omega
theorem cutW_below {W : World} {n : Nat} (h : n ≤ W.heap.size) : Below (cutW W n).heap.size (cutW W n) W := by
  rw [cutW_size h]
  refine ⟨rfl, rfl, rfl, by rw [cutW_size h]; exact h, fun k hk => ?_⟩
  show W.heap[k]? = (W.heap.extract 0 n)[k]?
  rw [Array.getElem?_extract]
  simp [hk]
  omega
theorem below_cutW {W W' : World} {n : Nat} (h : n ≤ W.heap.size) (hb : Below (cutW W n).heap.size (cutW W n) W') (hs : W.heap.size ≤ W'.heap.size) : Below n W W' := by
  rw [cutW_size h] at hb
  refine ⟨hb.os, hb.tape, hb.output, hs, fun k hk => ?_⟩
  rw [hb.block k hk]
  show (W.heap.extract 0 n)[k]? = W.heap[k]?
  rw [Array.getElem?_extract]
  simp [hk]
  omega
abbrev KS (S : SV) := { q : Nat // q < 728 ∧ (S.now q).isSome = true }
def kv {S : SV} (x : KS S) : Nat := x.1
theorem table_in {w : World} {own : Nat → Nat} {base g s : Nat} {S : SV} (h : St w own base g s S) (A : Option Addr) (c : Nat) (pl : List Int) (hC : (Kd.int .i64).C w A pl.length pl) (hc : pl.length ≤ c) (hS : Small S.now pl) :
    CallsIn Fence.wide 9 Try.prog 57 #[.pointer (some ⟨s, 0, none⟩), .slice A pl.length c] w fun e w' => ∃ bv fv, e = .returned (.tuple #[bv, fv]) ∧ (Kd.int .u8).R 5 w' w.heap.size (fun _ => True) bv (tab S.now pl).1 ∧ w'.ownsRow w.heap.size 3 1 fv (tab S.now pl).2.length ((tab S.now pl).2.map (Value.int .i64)) ∧ Below w.heap.size w w' := by
  have H0 := Lib.hid h
  have HC := Lib.hid hC
  have HS := Lib.hid hS
  have hP : Hid (∀ W, Below w.heap.size w W → Calls Try.prog 18 #[.pointer (some ⟨s, 0, none⟩)] W fun e w' => ∃ B v, e = .returned (.func (.func 56) #[] #[.pointer (some ⟨B, 0, none⟩)]) ∧ W.heap.size ≤ B ∧ Blk w' B 43 [v] ∧ Row w' (fun k => W.heap.size ≤ k) .i64 v (keysI S.now) ∧ Below W.heap.size W w') := Lib.hid (fun W hb => pages_c (h.below hb 0))
  obtain ⟨bk, bn, tv, hs, _, _, _, _, _, _, ⟨m, hm, hdom, hat⟩⟩ := h.blk
  have HB := Lib.hid hs
  have HM := Lib.hid hm
  have HAT := Lib.hid hat
  have BA := Lib.hid (((((Only.refl w (fun _ => False)).alloc (.cells #[.pointer (some ⟨s, 0, none⟩)] 25)).alloc (.cells #[.slice A pl.length c] 43)).alloc (.cells #[.slice none 0 0] 23)).alloc (.cells #[.slice none 0 0] 43)).below_all
  have X2 : Hid (Blk ((((w.alloc (.cells #[.pointer (some ⟨s, 0, none⟩)] 25)).alloc (.cells #[.slice A pl.length c] 43)).alloc (.cells #[.slice none 0 0] 23)).alloc (.cells #[.slice none 0 0] 43)) w.heap.size 25 [.pointer (some ⟨s, 0, none⟩)]) := Lib.hid ((((Blk.new w 25 [.pointer (some ⟨s, 0, none⟩)]).alloc _).alloc _).alloc _)
  have X3 : Hid (Blk ((((w.alloc (.cells #[.pointer (some ⟨s, 0, none⟩)] 25)).alloc (.cells #[.slice A pl.length c] 43)).alloc (.cells #[.slice none 0 0] 23)).alloc (.cells #[.slice none 0 0] 43)) (w.heap.size + 1) 43 [.slice A pl.length c]) := Lib.hid (by have h := ((Blk.new (w.alloc (.cells #[.pointer (some ⟨s, 0, none⟩)] 25)) 43 [.slice A pl.length c]).alloc (.cells #[.slice none 0 0] 23)).alloc (.cells #[.slice none 0 0] 43); simpa using h)
  have X4 : Hid (Blk ((((w.alloc (.cells #[.pointer (some ⟨s, 0, none⟩)] 25)).alloc (.cells #[.slice A pl.length c] 43)).alloc (.cells #[.slice none 0 0] 23)).alloc (.cells #[.slice none 0 0] 43)) (w.heap.size + 1 + 1) 23 [.slice none 0 0]) := Lib.hid (by have h := (Blk.new ((w.alloc (.cells #[.pointer (some ⟨s, 0, none⟩)] 25)).alloc (.cells #[.slice A pl.length c] 43)) 23 [.slice none 0 0]).alloc (.cells #[.slice none 0 0] 43); simpa using h)
  have X5 : Hid (Blk ((((w.alloc (.cells #[.pointer (some ⟨s, 0, none⟩)] 25)).alloc (.cells #[.slice A pl.length c] 43)).alloc (.cells #[.slice none 0 0] 23)).alloc (.cells #[.slice none 0 0] 43)) (w.heap.size + 1 + 1 + 1) 43 [.slice none 0 0]) := Lib.hid (by have h := Blk.new (((w.alloc (.cells #[.pointer (some ⟨s, 0, none⟩)] 25)).alloc (.cells #[.slice A pl.length c] 43)).alloc (.cells #[.slice none 0 0] 23)) 43 [.slice none 0 0]; simpa using h)
  have Z4 : Hid (((((w.alloc (.cells #[.pointer (some ⟨s, 0, none⟩)] 25)).alloc (.cells #[.slice A pl.length c] 43)).alloc (.cells #[.slice none 0 0] 23)).alloc (.cells #[.slice none 0 0] 43)).heap.size = w.heap.size + 4) := Lib.hid (by simp)
  clear hs hm hdom hat h hC hS
  refine callsIn_of_wp_marks Try.func57 rfl trivial ?_ rfl
  simp only [Try.ntmps57, List.size_toArray, List.length_cons, List.length_nil, Nat.reduceAdd, Nat.reduceSub, Array.replicate_succ, Array.replicate_zero, List.push_toArray, List.append_toArray, List.nil_append, List.cons_append]
  gi_wp2_with (first
    | (refine ⟨trivial, ?_⟩; gi_at_call 18; refine (callsIn_wide.2 (hP.out _ BA.out)).mono ?_; rintro e w2 ⟨B, v, rfl, hBw, hBlk, hRow, hb⟩)
    | fail)
  generalize ((((w.alloc (.cells #[.pointer (some ⟨s, 0, none⟩)] 25)).alloc (.cells #[.slice A pl.length c] 43)).alloc (.cells #[.slice none 0 0] 23)).alloc (.cells #[.slice none 0 0] 43)) = w1 at *
  obtain ⟨n1, hn1⟩ : ∃ n1, n1 = w2.heap.size := ⟨_, rfl⟩
  have hz1 := Z4.out
  have hz2 := hb.size
  have Y2 := Lib.hid (X2.out.below hb X2.out.lt)
  have Y3 := Lib.hid (X3.out.below hb X3.out.lt)
  have Y4 := Lib.hid (X4.out.below hb X4.out.lt)
  have Y5 := Lib.hid (X5.out.below hb X5.out.lt)
  have BW := Lib.hid (BA.out.trans (hb.mono BA.out.size))
  obtain ⟨zs, hzs⟩ : ∃ zs : List (KS S), zs = (keysN S.now).attachWith (fun q => q < 728 ∧ (S.now q).isSome = true) (fun q hq => mem_keysN.1 hq) := ⟨_, rfl⟩
  have hzv : zs.map kv = keysN S.now := by rw [hzs]; exact List.attachWith_map_subtype_val ..
  have hzl : zs.length ≤ 728 := by have := congrArg List.length hzv; rw [List.length_map] at this; rw [this]; exact keysN_len _
  have hrow2 : Row w2 (fun k => w1.heap.size ≤ k) .i64 v (zs.map (fun x => (x.1 : Int))) := by
    have e1 : zs.map (fun x => (x.1 : Int)) = keysI S.now := by
      unfold keysI
      rw [← hzv, List.map_map]
      rfl
    rw [e1]
    exact hRow
  obtain ⟨b, hbl, hbo, hseq⟩ := values_stops (fun x : KS S => (x.1 : Int)) 8 (by omega) B v zs w2 _ hBlk hrow2
  have hb1 : w.heap.size + 4 ≤ b := by
    rcases hbo with h | h
    · omega
    · omega
  have HZV := Lib.hid hzv
  clear hzs hzv hrow2 hRow hbo hP hb
  have HN1 := Lib.hid hn1
  refine wpIn_rangeFunc_ownF (α := KS S) rfl (by omega) (gf := 56) (lb := #[.pointer (some ⟨B, 0, none⟩)]) rfl trivial (enters_of Try.func56 (by kernel_rfl) rfl)
    (encs := fun (x : KS S) => #[.int .i64 (x.1 : Int)]) (Kp := fun X Y => Y.heap[b]? = X.heap[b]?) (S := fun ys => ys = zs) (Sp := fun pre => pre <+: zs) (N := zs.length) (w0 := w2) hseq
    (fun h1 h2 => h2.trans h1) (fun W l o o' hl ho _ _ => by
      have hg := grownBy_putObj' W l o'
      exact hg.block b (by have := (Array.getElem?_eq_some_iff.1 ho).1; omega) (fun e => by injection e with e; omega)) (Below.refl _ _) (fun _ => rfl)
    (fun (pre : List (KS S)) (W : World) => TI w n1 s (.slice A pl.length c) (tabF S.now pl (pre.map kv)) W) (fun _ _ _ => False)
    (fun pre W W' row hI hg hr => TI.abides (tb := tabF S.now pl (pre.map kv)) hI hg (fun r e => by have := hr r e; rw [hn1]; exact this)) (fun _ _ _ _ _ hs _ _ => hs)
    ⟨_, _, Y2.out, Y3.out, Y4.out, Y5.out, Kd.R_nil _ _ _ _ _, World.ownsRow_nil _ _ _ _, BW.out, by omega, by omega⟩
    (fun (x : KS S) => { tmps := #[.pointer (some ⟨s, 0, none⟩), .slice A pl.length c, .pointer (some ⟨w.heap.size, 0, none⟩), .pointer (some ⟨w.heap.size + 1, 0, none⟩), .pointer (some ⟨w.heap.size + 1 + 1, 0, none⟩), .pointer (some ⟨w.heap.size + 1 + 1 + 1, 0, none⟩), .int .i64 (x.1 : Int), undef, .pointer (some ⟨s, 0, none⟩), .func (.func 56) #[] #[.pointer (some ⟨B, 0, none⟩)], .int .i64 (x.1 : Int), undef, undef, undef, undef, undef, undef, undef, undef, undef, undef, undef, undef, undef, undef, undef, undef, undef, undef, undef, undef, undef, undef, undef, undef, undef, undef, undef, undef, undef, undef, undef, undef], defers := [] }) ?assign ?body ?done ?stop
  case assign =>
    intro l x W K hK
    gi_wp2
    exact hK
  case body =>
    rintro l pre ⟨q, hq, hqs⟩ W hI hlen
    dsimp only
    obtain ⟨p, hp⟩ := Option.isSome_iff_exists.1 hqs
    have hps := HS.out.f q p hp
    obtain ⟨tb, htb⟩ : ∃ tb, tb = tabF S.now pl (pre.map kv) := ⟨_, rfl⟩
    rw [← htb] at hI
    have HNX := Lib.hid (show tabF S.now pl ((pre ++ [(⟨q, hq, hqs⟩ : KS S)]).map kv) = tabStep S.now pl tb q by rw [List.map_append, htb]; exact tabF_snoc _ _ _ _)
    have htl := tabF_len HS.out pre.length (pre.map kv) (by simp)
    rw [← htb] at htl
    have htl1 : tb.1.length ≤ 7280 := by have := htl.1; omega
    have htl2 : tb.2.length ≤ 728 := by have := htl.2; omega
    have htli : (tb.2.length : Int) ≤ 728 := by omega
    obtain ⟨bv, fv, hI⟩ := hI
    obtain ⟨Af, cf, rfl⟩ : ∃ Af cf, fv = .slice Af tb.2.length cf := by
      rcases hI.o7.2 with ⟨hv, h0⟩ | ⟨g, cap, cur, hv, _⟩
      · exact ⟨none, 0, by rw [hv, h0]⟩
      · exact ⟨_, _, hv⟩
    have HI := Lib.hid hI
    have c2 := hI.b2.cell_at 0 _ rfl
    have c3 := hI.b3.cell_at 0 _ rfl
    have c4 := hI.b4.cell_at 0 _ rfl
    have c5 := hI.b5.cell_at 0 _ rfl
    have f4 := hI.b4.frozen 0
    have f5 := hI.b5.frozen 0
    have cs5 := (HB.out.below hI.below HB.out.lt).cell_at 5 _ rfl
    have hq2 := HAT.out q
    rw [hp] at hq2
    obtain ⟨dv, hdv, hrow⟩ := hq2
    obtain ⟨Ad, cd, rfl, _⟩ := hrow.reads
    have hrun := (HM.out.below hI.below HM.out.lt).look (q : Int) (Rg.of (by omega) (by omega))
    rw [hdv] at hrun
    simp only [Option.getD_some] at hrun
    have hfd := field0
    have hqi : (q : Int) < 728 := by omega
    have P1 := Lib.hid (Rd.put_f 20 tb.1 q (by omega) (by omega) (by omega))
    have e1 := enc5 (n := q) (by omega)
    have HPP := Lib.hid hp
    have hbn : b < n1 := by omega
    clear hI hdv hrow hp htb htl
    by_cases hp0 : p.1 = 0
    · obtain ⟨i0, hi0, hz0, hz1', hz2'⟩ := info_parts info3
      by_cases hlt : tb.2.length < pl.length
      · obtain ⟨ad, rfl, hcy⟩ := int_at (Kd.C_below HC.out HI.out.below) tb.2.length hlt
        obtain ⟨yn, hyn⟩ : ∃ yn : Nat, pl[tb.2.length] = (yn : Int) := ⟨(pl[tb.2.length]).toNat, by have := HS.out.pl _ (List.getElem_mem hlt); omega⟩
        have hyl := (HS.out.pl _ (List.getElem_mem hlt)).2
        rw [hyn] at hcy hyl
        have hyl2 : yn < 34359738368 := by omega
        have hst : Hid (tabStep S.now pl tb q = (tb.1 ++ enc q ++ enc yn, tb.2 ++ [(q : Int)])) := Lib.hid (by
          unfold tabStep
          rw [HPP.out]
          dsimp only
          rw [if_pos hp0, if_pos hp0, List.getElem?_eq_getElem hlt, hyn]
          rfl)
        have P2 := Lib.hid (Rd.put_f 20 (tb.1 ++ enc q) yn (by omega) (by omega) (by simp; omega))
        have hlti : (tb.2.length : Int) < (pl.length : Int) := by omega
        have hp0i : ((p.1 : Nat) : Int) = 0 := by omega
        rw [hp0i] at hrun
        gi_wp2_with (first
          | (gi_at_builtin; refine wpListIn_append_own_at _ rfl (.tmp 30) (.tmp 32) 43 rfl n1 3 i0 (.int .i64 0) 1 8 Try.underlying43 hi0 hz0 hz1' hz2' rfl (by decide) (.slice Af tb.2.length cf) tb.2.length (tb.2.map (Value.int .i64)) rfl (World.ownsRow.alloc HI.out.o7 _) ⟨W.heap.size, 0, none⟩ 1 1 [.int .i64 (q : Int)] rfl rfl (cell_one_new _ _ _) (by simp [Value.oneCell']) (by unfold maxLen; omega) (by omega) (by have := HI.out.size; simp; omega) ?_; intro v' w3 hown hg hnil hat
             obtain ⟨g', cap', rfl⟩ := ownsRow_succ hown
             have g5 := HI.out.at5 _ hg
             have d5 := g5.cell_at 0 _ rfl
             have e5 := g5.frozen 0
             have T := HI.out.fresh _ hg hown
             have T1 := Lib.hid T.1
             have KO1 := Lib.hid T.2.1
             have KB1 := Lib.hid (T.2.2 b hb1 hbn)
             have c4' := T.1.b4.cell_at 0 _ rfl
             clear hown hg hnil hat g5 T)
          | (refine ⟨trivial, ?_⟩; gi_at_call 73; refine (CallsIn.inRound l (callsIn_wide.2 (PShadowCrashes.sum_Put.calls 20 (okB _ n1) bv tb.1 _ (tb.1 ++ enc q) (cutW _ n1) _ (cutW_below T1.out.size) (by rw [cutW_size T1.out.size]; exact R_okB T1.out.r6) P1.out))).mono ?_; rintro e W1 ⟨bv1, rfl, r1, b1, k1⟩; have B1 := Lib.hid (below_cutW T1.out.size b1 k1.1); rw [cutW_size T1.out.size] at r1; have R1 := Lib.hid r1; have K1 := Lib.hid k1; have S1 := Lib.hid (Nat.le_trans T1.out.size k1.1); clear r1 b1 k1 P1)
          | (refine ⟨trivial, ?_⟩; gi_at_call 73; refine (CallsIn.inRound l (callsIn_wide.2 (PShadowCrashes.sum_Put.calls 20 (okB W1 n1) bv1 (tb.1 ++ enc q) _ (tb.1 ++ enc q ++ enc yn) (cutW W1 n1) W1 (cutW_below S1.out) (by rw [cutW_size S1.out]; exact R_okB R1.out) P2.out))).mono ?_; rintro e W2 ⟨bv2, rfl, r2, b2, k2⟩; have B2 := Lib.hid (B1.out.trans (below_cutW S1.out b2 k2.1)); rw [cutW_size S1.out] at r2; obtain ⟨bs2, hbs2⟩ : ∃ bs2, bs2 = tb.1 ++ enc q ++ enc yn := ⟨_, rfl⟩; rw [← hbs2] at r2; obtain ⟨A2, k2', rfl⟩ := Kd.R_slice r2; have HBS := Lib.hid hbs2; have R2 := Lib.hid r2; have K2 := Lib.hid (K1.out.then_ k2 (fun k hk => okB_then K1.out hk)); have Y4 := T1.out.b4.below B2.out (by have := HI.out.four; omega); have g4 := Y4.frozen 0; have d4 := Y4.cell_at 0 _ rfl; clear r2 b2 k2 P2 hbs2)
          | fail)
        obtain ⟨t1, t2, t3⟩ := T1.out.bytes K2.out B2.out (Kd.R_mono R2.out (fun _ _ => trivial))
        refine ⟨KO1.out.trans t2, (t3 b hb1 hbn).trans KB1.out, ?_⟩
        show TI w n1 s _ (tabF S.now pl ((pre ++ [(⟨q, hq, hqs⟩ : KS S)]).map kv)) _
        rw [HNX.out, hst.out, ← HBS.out]
        exact ⟨_, _, t1⟩
      · have hst : Hid (tabStep S.now pl tb q = (tb.1 ++ enc q ++ enc 0, tb.2 ++ [(q : Int)])) := Lib.hid (by
          unfold tabStep
          rw [HPP.out]
          dsimp only
          rw [if_pos hp0, if_pos hp0, List.getElem?_eq_none (by omega)]
          rfl)
        have P2 := Lib.hid (Rd.put_f 20 (tb.1 ++ enc q) 0 (by omega) (by omega) (by simp; omega))
        have hlti : ¬ (tb.2.length : Int) < (pl.length : Int) := by omega
        have hp0i : ((p.1 : Nat) : Int) = 0 := by omega
        rw [hp0i] at hrun
        gi_wp2_with (first
          | (gi_at_builtin; refine wpListIn_append_own_at _ rfl (.tmp 30) (.tmp 32) 43 rfl n1 3 i0 (.int .i64 0) 1 8 Try.underlying43 hi0 hz0 hz1' hz2' rfl (by decide) (.slice Af tb.2.length cf) tb.2.length (tb.2.map (Value.int .i64)) rfl (World.ownsRow.alloc HI.out.o7 _) ⟨W.heap.size, 0, none⟩ 1 1 [.int .i64 (q : Int)] rfl rfl (cell_one_new _ _ _) (by simp [Value.oneCell']) (by unfold maxLen; omega) (by omega) (by have := HI.out.size; simp; omega) ?_; intro v' w3 hown hg hnil hat
             obtain ⟨g', cap', rfl⟩ := ownsRow_succ hown
             have g5 := HI.out.at5 _ hg
             have d5 := g5.cell_at 0 _ rfl
             have e5 := g5.frozen 0
             have T := HI.out.fresh _ hg hown
             have T1 := Lib.hid T.1
             have KO1 := Lib.hid T.2.1
             have KB1 := Lib.hid (T.2.2 b hb1 hbn)
             have c4' := T.1.b4.cell_at 0 _ rfl
             clear hown hg hnil hat g5 T)
          | (refine ⟨trivial, ?_⟩; gi_at_call 73; refine (CallsIn.inRound l (callsIn_wide.2 (PShadowCrashes.sum_Put.calls 20 (okB _ n1) bv tb.1 _ (tb.1 ++ enc q) (cutW _ n1) _ (cutW_below T1.out.size) (by rw [cutW_size T1.out.size]; exact R_okB T1.out.r6) P1.out))).mono ?_; rintro e W1 ⟨bv1, rfl, r1, b1, k1⟩; have B1 := Lib.hid (below_cutW T1.out.size b1 k1.1); rw [cutW_size T1.out.size] at r1; have R1 := Lib.hid r1; have K1 := Lib.hid k1; have S1 := Lib.hid (Nat.le_trans T1.out.size k1.1); clear r1 b1 k1 P1)
          | (refine ⟨trivial, ?_⟩; gi_at_call 73; refine (CallsIn.inRound l (callsIn_wide.2 (PShadowCrashes.sum_Put.calls 20 (okB W1 n1) bv1 (tb.1 ++ enc q) _ (tb.1 ++ enc q ++ enc 0) (cutW W1 n1) W1 (cutW_below S1.out) (by rw [cutW_size S1.out]; exact R_okB R1.out) P2.out))).mono ?_; rintro e W2 ⟨bv2, rfl, r2, b2, k2⟩; have B2 := Lib.hid (B1.out.trans (below_cutW S1.out b2 k2.1)); rw [cutW_size S1.out] at r2; obtain ⟨bs2, hbs2⟩ : ∃ bs2, bs2 = tb.1 ++ enc q ++ enc 0 := ⟨_, rfl⟩; rw [← hbs2] at r2; obtain ⟨A2, k2', rfl⟩ := Kd.R_slice r2; have HBS := Lib.hid hbs2; have R2 := Lib.hid r2; have K2 := Lib.hid (K1.out.then_ k2 (fun k hk => okB_then K1.out hk)); have Y4 := T1.out.b4.below B2.out (by have := HI.out.four; omega); have g4 := Y4.frozen 0; have d4 := Y4.cell_at 0 _ rfl; clear r2 b2 k2 P2 hbs2)
          | fail)
        obtain ⟨t1, t2, t3⟩ := T1.out.bytes K2.out B2.out (Kd.R_mono R2.out (fun _ _ => trivial))
        refine ⟨KO1.out.trans t2, (t3 b hb1 hbn).trans KB1.out, ?_⟩
        show TI w n1 s _ (tabF S.now pl ((pre ++ [(⟨q, hq, hqs⟩ : KS S)]).map kv)) _
        rw [HNX.out, hst.out, ← HBS.out]
        exact ⟨_, _, t1⟩
    · have hst : Hid (tabStep S.now pl tb q = (tb.1 ++ enc q ++ enc p.1, tb.2)) := Lib.hid (by unfold tabStep; rw [HPP.out]; dsimp only; rw [if_neg hp0, if_neg hp0])
      have P2 := Lib.hid (Rd.put_f 20 (tb.1 ++ enc q) p.1 (by omega) (by omega) (by simp; omega))
      have hne : ((p.1 : Nat) : Int) ≠ 0 := by omega
      gi_wp2_with (first
        | (refine ⟨trivial, ?_⟩; gi_at_call 73; refine (CallsIn.inRound l (callsIn_wide.2 (PShadowCrashes.sum_Put.calls 20 (okB W n1) bv tb.1 _ (tb.1 ++ enc q) (cutW W n1) W (cutW_below HI.out.size) (by rw [cutW_size HI.out.size]; exact R_okB HI.out.r6) P1.out))).mono ?_; rintro e W1 ⟨bv1, rfl, r1, b1, k1⟩; have B1 := Lib.hid (below_cutW HI.out.size b1 k1.1); rw [cutW_size HI.out.size] at r1; have R1 := Lib.hid r1; have K1 := Lib.hid k1; have S1 := Lib.hid (Nat.le_trans HI.out.size k1.1); clear r1 b1 k1 P1)
        | (refine ⟨trivial, ?_⟩; gi_at_call 73; refine (CallsIn.inRound l (callsIn_wide.2 (PShadowCrashes.sum_Put.calls 20 (okB W1 n1) bv1 (tb.1 ++ enc q) _ (tb.1 ++ enc q ++ enc p.1) (cutW W1 n1) W1 (cutW_below S1.out) (by rw [cutW_size S1.out]; exact R_okB R1.out) P2.out))).mono ?_; rintro e W2 ⟨bv2, rfl, r2, b2, k2⟩; have B2 := Lib.hid (B1.out.trans (below_cutW S1.out b2 k2.1)); rw [cutW_size S1.out] at r2; obtain ⟨bs2, hbs2⟩ : ∃ bs2, bs2 = tb.1 ++ enc q ++ enc p.1 := ⟨_, rfl⟩; rw [← hbs2] at r2; obtain ⟨A2, k2', rfl⟩ := Kd.R_slice r2; have HBS := Lib.hid hbs2; have R2 := Lib.hid r2; have K2 := Lib.hid (K1.out.then_ k2 (fun k hk => okB_then K1.out hk)); have Y4 := HI.out.b4.below B2.out (by have := HI.out.four; omega); have g4 := Y4.frozen 0; have d4 := Y4.cell_at 0 _ rfl; clear r2 b2 k2 P2 hbs2)
        | fail)
      obtain ⟨t1, t2, t3⟩ := HI.out.bytes K2.out B2.out (Kd.R_mono R2.out (fun _ _ => trivial))
      refine ⟨t2, t3 b hb1 hbn, ?_⟩
      show TI w n1 s _ (tabF S.now pl ((pre ++ [(⟨q, hq, hqs⟩ : KS S)]).map kv)) _
      rw [HNX.out, hst.out, ← HBS.out]
      exact ⟨_, _, t1⟩
  case stop =>
    rintro D c pre W _ _ h _
    exact h.elim
  case done =>
    rintro D xs W hD rfl hI hK
    obtain ⟨bv, fv, hI⟩ := hI
    obtain ⟨tb, htb⟩ : ∃ tb, tb = tabF S.now pl (xs.map kv) := ⟨_, rfl⟩
    rw [← htb] at hI
    rw [HZV.out] at htb
    have HTB := Lib.hid (show tb = tab S.now pl from htb)
    clear htb
    obtain ⟨bs, hbs⟩ : ∃ bs, bs = tb.1 := ⟨_, rfl⟩
    obtain ⟨fs, hfs⟩ : ∃ fs, fs = tb.2 := ⟨_, rfl⟩
    rw [← hbs, ← hfs] at hI
    have HBS := Lib.hid hbs
    have HFS := Lib.hid hfs
    clear hbs hfs
    obtain ⟨Af, cf, rfl⟩ : ∃ Af cf, fv = .slice Af fs.length cf := by
      rcases hI.o7.2 with ⟨hv, h0⟩ | ⟨g, cap, cur, hv, _⟩
      · exact ⟨none, 0, by rw [hv, h0]⟩
      · exact ⟨_, _, hv⟩
    obtain ⟨Ab, cb, rfl⟩ := Kd.R_slice hI.r6
    have HI := Lib.hid hI
    have c4 := hI.b4.cell_at 0 _ rfl
    have c5 := hI.b5.cell_at 0 _ rfl
    have f4 := hI.b4.frozen 0
    have f5 := hI.b5.frozen 0
    clear hI
    gi_wp2
    gi_region
    gi_wp2
    have hz := HI.out.four
    have hzw := HI.out.size
    have hbel := HI.out.below.size
    have hn9 := HN1.out
    have hK2 : ((W.setCell ⟨w.heap.size + 1 + 1, 0, none⟩ (.slice Ab bs.length cb)).setCell ⟨w.heap.size + 1 + 1 + 1, 0, none⟩ (.slice Af fs.length cf)).drew.heap[D]? = some (.deferred (some [])) := (Below.heap_setCell _ _ _ D (by show D ≠ w.heap.size + 1 + 1 + 1; omega)).trans ((Below.heap_setCell _ _ _ D (by show D ≠ w.heap.size + 1 + 1; omega)).trans hK)
    have e4 := ((HI.out.b4.set_ 0 (.slice Ab bs.length cb)).far (p := ⟨w.heap.size + 1 + 1 + 1, 0, none⟩) (by show w.heap.size + 1 + 1 ≠ w.heap.size + 1 + 1 + 1; omega) (.slice Af fs.length cf)).drew
    have e5 := ((HI.out.b5.far (p := ⟨w.heap.size + 1 + 1, 0, none⟩) (by show w.heap.size + 1 + 1 + 1 ≠ w.heap.size + 1 + 1; omega) (.slice Ab bs.length cb)).set_ 0 (.slice Af fs.length cf)).drew
    have hblk : ∀ k, n1 ≤ k → ((W.setCell ⟨w.heap.size + 1 + 1, 0, none⟩ (.slice Ab bs.length cb)).setCell ⟨w.heap.size + 1 + 1 + 1, 0, none⟩ (.slice Af fs.length cf)).drew.heap[k]? = W.heap[k]? := fun k hk => (Below.heap_setCell _ _ _ k (by show k ≠ w.heap.size + 1 + 1 + 1; omega)).trans (Below.heap_setCell _ _ _ k (by show k ≠ w.heap.size + 1 + 1; omega))
    have hsz : W.heap.size = ((W.setCell ⟨w.heap.size + 1 + 1, 0, none⟩ (.slice Ab bs.length cb)).setCell ⟨w.heap.size + 1 + 1 + 1, 0, none⟩ (.slice Af fs.length cf)).drew.heap.size := by simp
    have hr6 := R_okB HI.out.r6
    have O2 := (((Only.of_below HI.out.below (fun k => w.heap.size ≤ k)).setCell (p := ⟨w.heap.size + 1 + 1, 0, none⟩) (fun _ => by show w.heap.size ≤ w.heap.size + 1 + 1; omega) (.slice Ab bs.length cb)).setCell (p := ⟨w.heap.size + 1 + 1 + 1, 0, none⟩) (fun _ => by show w.heap.size ≤ w.heap.size + 1 + 1 + 1; omega) (.slice Af fs.length cf)).drew
    generalize ((W.setCell ⟨w.heap.size + 1 + 1, 0, none⟩ (.slice Ab bs.length cb)).setCell ⟨w.heap.size + 1 + 1 + 1, 0, none⟩ (.slice Af fs.length cf)).drew = W2 at *
    refine ⟨by simp, .inl ⟨_, _, rfl, run_takeDeferred hK2, ?_⟩⟩
    have gk := grownBy_putObj' W2 D (.deferred none)
    have gd : ∀ k, k ≠ D → k < W2.heap.size → (W2.putObj D (.deferred none)).heap[k]? = W2.heap[k]? := fun k hk hl => gk.block k hl (fun e => hk (by injection e))
    have x4 : (W2.putObj D (.deferred none)).cell? ⟨w.heap.size + 1 + 1, 0, none⟩ = some (.slice Ab bs.length cb) := (World.cell?_of_block (gd _ (by show w.heap.size + 1 + 1 ≠ D; omega) e4.lt)).trans (e4.cell_at 0 _ rfl)
    have x5 : (W2.putObj D (.deferred none)).cell? ⟨w.heap.size + 1 + 1 + 1, 0, none⟩ = some (.slice Af fs.length cf) := (World.cell?_of_block (gd _ (by show w.heap.size + 1 + 1 + 1 ≠ D; omega) e5.lt)).trans (e5.cell_at 0 _ rfl)
    have bel : Below w.heap.size w (W2.putObj D (.deferred none)) := (O2.step (Only.of_grown gk) (fun k _ h => by injection h with h; omega)).below (Nat.le_refl _) (fun k hk h => by omega)
    have hrB : (Kd.int .u8).R 5 (W2.putObj D (.deferred none)) w.heap.size (fun _ => True) (.slice Ab bs.length cb) bs := by
      refine Kd.R_lower (Kd.R_mono (Kd.R_step hr6 (fun k hk hl => ?_)) (fun _ _ => trivial)) (by omega)
      obtain ⟨h1, _, cells, hc⟩ := hk
      refine (gd k (fun e => ?_) (by omega)).trans (hblk k h1)
      rw [e, hK] at hc
      injection hc with hc
      cases hc
    have hrF : (W2.putObj D (.deferred none)).ownsRow w.heap.size 3 1 (.slice Af fs.length cf) fs.length (fs.map (Value.int .i64)) := by
      refine own_weaken (own_of_block HI.out.o7 (fun b hb => ?_)) (by omega)
      obtain ⟨h1, cells, hc⟩ := own_cells HI.out.o7 hb
      refine (gd b (fun e => ?_) (by have := (Array.getElem?_eq_some_iff.1 hc).1; omega)).trans (hblk b h1)
      rw [e, hK] at hc
      injection hc with hc
      cases hc
    generalize W2.putObj D (.deferred none) = W3 at *
    have hres : Try.f57.results = #[.cell 4 23, .cell 5 43] := by kernel_rfl
    refine ⟨.tuple #[.slice Ab bs.length cb, .slice Af fs.length cf], ?_, _, _, rfl, ?_, ?_, bel⟩
    · simp [results, hres, asAddr, go_sem, x4, x5]
    · rw [← HTB.out, ← HBS.out]; exact hrB
    · rw [← HTB.out, ← HFS.out]; exact hrF
end Go.Proofs.Ytochnokfcfmgnaa.St
end

section
/- Seat F: which pages a store uses, walked. -/
namespace Go.Proofs.Ytochnokfcfmgnaa.St
open Go Go.RowKit Go.Proofs.Ytochnokfcfmgnaa.Mem Go.Proofs.YtochnokfcfmgnaaW.PrintWords Go.Proofs.Ytochnokfcfmgnaa.Dk Go.Maps Go.ChangeMaps Go.Proofs.Ytochnokfcfmgnaa.Sh
set_option linter.unusedVariables false
set_option linter.unusedSimpArgs false
set_option maxRecDepth 100000
set_option maxHeartbeats 4000000
open Classical in
noncomputable def uL (P : Nat → Prop) (c : Nat) : List Bool := (List.range c).map (fun k => decide (P k))
theorem uL_len (P : Nat → Prop) (c : Nat) : (uL P c).length = c := by unfold uL; simp
theorem uL_at {P : Nat → Prop} {c k : Nat} (h : k < (uL P c).length) : (uL P c)[k] = true ↔ P k := by
  have hk : k < c := by rw [uL_len] at h; exact h
  have e : (uL P c)[k]? = some (@decide (P k) (Classical.propDecidable _)) := by
    unfold uL
    rw [List.getElem?_map, List.getElem?_range hk]
    rfl
  rw [List.getElem?_eq_getElem h] at e
  injection e with e
  rw [e]
  exact ⟨fun h => @of_decide_eq_true _ (Classical.propDecidable _) h, fun h => @decide_eq_true _ (Classical.propDecidable _) h⟩
theorem uL_congr {P Q : Nat → Prop} (h : ∀ k, P k ↔ Q k) (c : Nat) : uL P c = uL Q c := by
  have : P = Q := funext fun k => propext (h k)
  rw [this]
theorem uL_set (P : Nat → Prop) (c t : Nat) (ht : t < c) : (uL P c).set t true = uL (fun k => P k ∨ k = t) c := by
  apply List.ext_getElem
  · simp [uL_len]
  · intro i h1 h2
    rw [Bool.eq_iff_iff, uL_at, List.getElem_set]
    by_cases e : t = i
    · simp [e]
    · rw [if_neg e, uL_at]
      exact ⟨.inl, fun h => h.elim id (fun h => absurd h.symm e)⟩
theorem uL_none (c : Nat) : uL (fun _ => False) c = List.replicate c false := by
  apply List.ext_getElem
  · simp [uL_len]
  · intro i h1 h2
    have := (uL_at (P := fun _ => False) h1)
    simp at this ⊢
    exact this
theorem info4 : (Try.prog.info? 4).map (fun i => (i.zero, i.size, i.bytes)) = some (some (.bool false), 1, 1) := by kernel_rfl
theorem made_bools (n : Nat) : madeCells #[.bool false] n = ((List.replicate n false).map Value.bool).toArray := by
  apply Array.ext
  · simp [madeCells]
  · intro i h1 h2
    simp [madeCells]
    rw [Nat.mod_one]; rfl
theorem make_bools (n : Nat) (hn : n ≤ 65536) (w : World) : (Instr.makeSlice 50 (.int .i64 (n : Int)) (.int .i64 (n : Int))).run Try.prog w = .ok (.slice (some ⟨w.heap.size, 0, none⟩) n n) (w.alloc (.cells ((List.replicate n false).map Value.bool).toArray 4)) := by
  have := run_make_row' (P := Try.prog) 50 4 (.bool false) 1 Try.underlying50 info4 rfl .i64 .i64 n (by omega) (by omega) w
  rw [made_bools] at this
  exact this
theorem start_row (c : Nat) (hc : 3 ≤ c) : ((Array.replicate c (Value.bool false)).setIfInBounds 0 (.bool true)).setIfInBounds 1 (.bool true) = ((uL (fun k => k = 0 ∨ k = 1) c).map Value.bool).toArray := by
  apply Array.ext'
  rw [Array.toList_setIfInBounds, Array.toList_setIfInBounds, Array.toList_replicate]
  have e1 : uL (fun k => k = 0 ∨ k = 1) c = ((List.replicate c false).set 0 true).set 1 true := by
    rw [← uL_none, uL_set _ _ _ (by omega), uL_set _ _ _ (by omega)]
    exact uL_congr (fun k => by simp) c
  rw [e1]
  show _ = (((List.replicate c false).set 0 true).set 1 true).map Value.bool
  rw [List.map_set, List.map_set, List.map_replicate]
theorem own_map_below {w w' : World} {P : Program} {k : TypeId} {R : Value → Option (DataW Value × List MemPlace)} {b n B : Nat} {D : DataW Value} (h : w.ownsMap P k R b n D) (hb : Below B w w') (hB : b < B) : w'.ownsMap P k R b n D := by
  obtain ⟨es, cl, hh, r⟩ := h
  exact ⟨es, cl, (hb.block b hB).trans hh, r⟩
/-- Is a page in use? -/
def usedP (S : SV) (k : Nat) : Prop := k = 0 ∨ k = 1 ∨ (k : Int) ∈ S.tabs ∨ ∃ i p, S.kept i = some p ∧ p.1 = k
theorem set_bool {xs : List Bool} (i : Nat) : (xs.map Value.bool).set i (.bool true) = (xs.set i true).map Value.bool := by rw [List.map_set]
theorem used_c {w : World} {own : Nat → Nat} {base g s n : Nat} {S : SV} (h : St w own base g s S) (hO : Ok n S) :
    Calls Try.prog 41 #[.pointer (some ⟨s, 0, none⟩)] w fun e w' => ∃ B, e = .returned (.slice (some ⟨B, 0, none⟩) (n / 4) (n / 4)) ∧ w.heap.size ≤ B ∧ Blk w' B 4 ((uL (usedP S) (n / 4)).map Value.bool) ∧ Below w.heap.size w w' := by
  obtain ⟨bk, bn, tv, hs, _, _, _, _, hrow, ⟨m, ⟨D, hown, hD⟩, hdom, hat⟩, _⟩ := h.blk
  obtain ⟨c, hc⟩ : ∃ c, c = n / 4 := ⟨_, rfl⟩
  have hc3 : 3 ≤ c := by have := hO.n1; omega
  have hc1 : c ≤ 100 := by have := hO.n2; omega
  have hci : (c : Int) ≤ 100 := by omega
  have hci3 : (3 : Int) ≤ (c : Int) := by omega
  have CO := Lib.hid (Pg.count_any h.disk hO.good)
  rw [← hc] at CO ⊢
  have hmk := make_bools c (by omega)
  have c0 := hs.cell_at 0 _ rfl
  have c3 := hs.cell_at 3 _ rfl
  have c4 := hs.cell_at 4 _ rfl
  obtain ⟨At, ct, rfl, htl, hCt, _⟩ := hrow.reads
  have HS := Lib.hid hs
  have HT := Lib.hid hCt
  have HTR := Lib.hid hO.tabs
  rw [← hc] at HTR
  have HOWN := Lib.hid hown
  have htl2 := hrow.len
  have HKEY := Lib.hid (show ∀ i v, Maps.has D (key i) = true → (∀ zd, D.atKey (key i) zd = .held v) → ∃ (q a : Nat) (A : Option Addr) (l cc : Nat), i = (q : Int) ∧ v = .agg #[.int .i64 (a : Int), .slice A l cc] ∧ (∃ p, S.kept q = some p ∧ p.1 = a) ∧ a < c from fun i v h1 h2 => by
    have h3 := (hD i).1
    rw [h1] at h3
    obtain ⟨h4, h5⟩ := hdom i h3.symm
    obtain ⟨q, rfl⟩ : ∃ q : Nat, i = (q : Int) := ⟨i.toNat, by omega⟩
    have h6 := hat q
    cases hf : S.kept q with
    | none => rw [hf] at h6; have h6 : m (q : Int) = none := h6; rw [h6] at h3; cases h3
    | some p =>
      rw [hf] at h6
      obtain ⟨v', h7, h8⟩ := h6
      obtain ⟨A, cc, rfl, _⟩ := h8.reads
      have h9 := (hD q).2 .nilFunc
      rw [h2, h7] at h9
      injection h9 with h9
      exact ⟨q, p.1, A, _, cc, rfl, h9, ⟨p, hf, rfl⟩, by have := (hO.kept q p hf).2.2.1; omega⟩)
  have HALL := Lib.hid (show ∀ (i : Nat) p, S.kept i = some p → Maps.has D (key i) = true from fun i p hf => by
    have h6 := hat i
    rw [hf] at h6
    obtain ⟨v', h7, _⟩ := h6
    rw [(hD i).1, h7]
    rfl)
  obtain ⟨wU, hwU⟩ : ∃ wU, wU = w.alloc (.cells (((Array.replicate c (Value.bool false)).setIfInBounds 0 (.bool true)).setIfInBounds 1 (.bool true)) 4) := ⟨_, rfl⟩
  have hbU : Below w.heap.size w wU := by rw [hwU]; exact (Below.refl _ w).alloc (Nat.le_refl _) _
  have BU := Lib.hid hbU
  have XU : Hid (Blk wU w.heap.size 4 ((uL (fun k => k = 0 ∨ k = 1) c).map Value.bool)) := Lib.hid (by rw [hwU, start_row c hc3]; exact Blk.new _ _ _)
  have c3u := (hs.below hbU hs.lt).cell_at 3 _ rfl
  rw [hwU] at c3u
  have HWU := Lib.hid hwU
  have hsne : ¬ s = w.heap.size := by have := hs.lt; omega
  have hz0 : (Array.replicate c (Value.bool false))[0]? = some (.bool false) := by rw [Array.getElem?_replicate, if_pos (by omega)]
  have hz1 : (Array.replicate c (Value.bool false))[1]? = some (.bool false) := by rw [Array.getElem?_replicate, if_pos (by omega)]
  have HCE := Lib.hid hc
  clear hs hown hD hdom hat h hCt hrow hO hc hwU hbU
  go_enter Try.func41, Try.ntmps41
  go_wp2_with (first
    | (go_at_call 45; refine CO.out.mono ?_; rintro e wz ⟨rfl, hwz⟩; rw [← hwz]; clear hwz)
    | fail)
  rw [← HWU.out]
  clear c0 c3 c3u hmk hz0 hz1
  have htli : (S.tabs.length : Int) ≤ 100000 := by omega
  go_loopg [23] S.tabs.length (fun mm iv wr => ∃ k : Nat, iv = .int .i64 k ∧ Aside1 (k + mm = S.tabs.length) ∧ Aside1 (Below w.heap.size w wr) ∧ Aside1 (Blk wr w.heap.size 4 ((uL (fun q => q = 0 ∨ q = 1 ∨ (q : Int) ∈ S.tabs.take k) c).map Value.bool)))
  case atStart => exact ⟨0, rfl, ⟨by omega⟩, ⟨BU.out⟩, ⟨by have h := XU.out; rw [uL_congr (Q := fun q => q = 0 ∨ q = 1 ∨ (q : Int) ∈ S.tabs.take 0) (fun q => by simp)] at h; exact h⟩⟩
  case round =>
    obtain ⟨k, rfl, ⟨hkm⟩, ⟨hB⟩, ⟨hX⟩⟩ := hrel
    have KM := Lib.hid hkm
    have B := Lib.hid hB
    have X := Lib.hid hX
    have hk0 : (k : Int) ≤ 100000 := by omega
    clear hkm hB hX
    by_cases hk : k < S.tabs.length
    · have hki : (k : Int) < (S.tabs.length : Int) := by omega
      obtain ⟨ad, rfl, e1⟩ := int_at (Kd.C_below HT.out B.out) k hk
      obtain ⟨t, ht⟩ : ∃ t : Nat, S.tabs[k] = (t : Int) := ⟨(S.tabs[k]).toNat, by have := (HTR.out _ (List.getElem_mem hk)).1; omega⟩
      have htc := (HTR.out _ (List.getElem_mem hk)).2
      rw [ht] at htc e1
      have htn : t < c := by omega
      have HTE := Lib.hid ht
      have XS := Lib.hid (X.out.set_ t (.bool true))
      have q1 := X.out.cell t
      have q2 := X.out.frozen t
      rw [show ((uL (fun q => q = 0 ∨ q = 1 ∨ (q : Int) ∈ S.tabs.take k) c).map Value.bool)[t]? = some (.bool ((uL (fun q => q = 0 ∨ q = 1 ∨ (q : Int) ∈ S.tabs.take k) c)[t]'(by rw [uL_len]; exact htn))) from by rw [List.getElem?_map, List.getElem?_eq_getElem (by rw [uL_len]; exact htn)]; rfl] at q1
      clear ht
      go_wp2_with fail
      go_roundg (gk - 1)
      case measure => have := KM.out; omega
      case rel => exact ⟨k + 1, (by simp), ⟨by have := KM.out; omega⟩, ⟨B.out.setCell (p := ⟨w.heap.size, t, none⟩) (Nat.le_refl _) _⟩, ⟨by
        have h := XS.out
        rw [set_bool, uL_set _ _ _ htn, uL_congr (Q := fun q => q = 0 ∨ q = 1 ∨ (q : Int) ∈ S.tabs.take (k + 1)) (fun q => by
          rw [List.take_succ_eq_append_getElem hk, HTE.out, List.mem_append, List.mem_singleton]
          constructor
          · rintro ((h | h | h) | h)
            · exact .inl h
            · exact .inr (.inl h)
            · exact .inr (.inr (.inl h))
            · exact .inr (.inr (.inr (by rw [h])))
          · rintro (h | h | h | h)
            · exact .inl (.inl h)
            · exact .inl (.inr (.inl h))
            · exact .inl (.inr (.inr h))
            · exact .inr (by omega))] at h
        exact h⟩⟩
    · have hki : ¬ (k : Int) < (S.tabs.length : Int) := by omega
      have c4r := (HS.out.below B.out HS.out.lt).cell_at 4 _ rfl
      have OWr := Lib.hid (own_map_below HOWN.out B.out HOWN.out.lt)
      have X0 : Hid (Blk wr w.heap.size 4 ((uL (fun q => q = 0 ∨ q = 1 ∨ (q : Int) ∈ S.tabs) c).map Value.bool)) := Lib.hid (by have h := X.out; rw [List.take_of_length_le (by omega)] at h; exact h)
      obtain ⟨wq, hwq⟩ : ∃ wq, wq = wr := ⟨_, rfl⟩
      subst hwq
      go_wp2_with (first
        | (at_range; refine wpList_range_own _ rfl _ 74 rfl 3 72 law3 u74 vR bk _ D rfl OWr.out ?_; intro w0 hrg0 hg0 hs0; have RG0 := Lib.hid hrg0; have G0 := Lib.hid hg0; clear hrg0 hg0 hs0)
        | fail)
      have XW := Lib.hid (show Blk w0 w.heap.size 4 ((uL (fun q => q = 0 ∨ q = 1 ∨ (q : Int) ∈ S.tabs) c).map Value.bool) from (G0.out.block w.heap.size X0.out.lt (by simp)).trans X0.out)
      have BW := Lib.hid (show Below w.heap.size w w0 from B.out.trans ⟨G0.out.os, G0.out.tape, G0.out.output, G0.out.size, fun q hq => G0.out.block q (by have := B.out.size; omega) (by simp)⟩)
      have hwl : w.heap.size < wq.heap.size := X0.out.lt
      clear X X0 B OWr c4r KM
      obtain ⟨r, hr⟩ : ∃ r, r = wq.heap.size := ⟨_, rfl⟩
      rw [← hr] at RG0 hwl ⊢
      clear hr
      go_loopw [37] (fun _ wr => ∃ (left : Lit → Bool) (cnt : Nat), wr.ranges Try.prog 3 vR bk r (Maps.size D) D left cnt ∧ Aside1 (Below w.heap.size w wr) ∧ Aside1 (Blk wr w.heap.size 4 ((uL (fun q => (q = 0 ∨ q = 1 ∨ (q : Int) ∈ S.tabs) ∨ ∃ i p, S.kept i = some p ∧ p.1 = q ∧ left (key i) = false) c).map Value.bool))) (fun _ wr => wr.rangeLeft bk r)
      case atStart =>
        refine ⟨Maps.has D, Maps.size D, RG0.out, ⟨BW.out⟩, ⟨?_⟩⟩
        have h := XW.out
        rw [uL_congr (Q := fun q => (q = 0 ∨ q = 1 ∨ (q : Int) ∈ S.tabs) ∨ ∃ i p, S.kept i = some p ∧ p.1 = q ∧ Maps.has D (key i) = false) (fun q => ⟨.inl, fun h => h.elim id (fun ⟨i, p, h1, _, h2⟩ => by rw [HALL.out i p h1] at h2; cases h2)⟩)] at h
        exact h
      case round =>
        obtain ⟨left, cnt, hrg, ⟨hB⟩, ⟨hX⟩⟩ := hrel
        have RG := Lib.hid hrg
        have B := Lib.hid hB
        have X := Lib.hid hX
        clear hrg hB hX RG0 XW BW G0
        go_wp2_with (first
          | (at_next; refine wpList_next_ranges _ rfl _ rfl 3 law3 vR (fun x : Int => .int .i64 x) (fun v : Value => v) (fun key kl h => by obtain ⟨x, h1, _⟩ := Maps.keyOf_int_inv u3 h; exact ⟨x, h1⟩) (fun v y _ => ⟨v, rfl⟩) bk r _ D left cnt rfl RG.out ?_ ?_)
          | fail)
        · intro _ hl0
          have HL0 := Lib.hid hl0
          clear hl0
          go_wp2_with fail
          go_ret
          refine ⟨_, rfl, Nat.le_refl _, ?_, B.out⟩
          have h := X.out
          rw [uL_congr (Q := usedP S) (fun q => by
            unfold usedP
            constructor
            · rintro ((h | h | h) | ⟨i, p, h1, h2, _⟩)
              · exact .inl h
              · exact .inr (.inl h)
              · exact .inr (.inr (.inl h))
              · exact .inr (.inr (.inr ⟨i, p, h1, h2⟩))
            · rintro (h | h | h | ⟨i, p, h1, h2⟩)
              · exact .inl (.inl h)
              · exact .inl (.inr (.inl h))
              · exact .inl (.inr (.inr h))
              · exact .inr ⟨i, p, h1, h2, HL0.out _⟩)] at h
          exact h
        · intro x v kl yd yp w1 cnt1 hkey hlk hv hat hrg1 hlt hg1 hs1 hen
          obtain ⟨x', hx', rfl, _⟩ := Maps.keyOf_int_inv u3 hkey
          obtain rfl : x = x' := by injection hx'
          obtain rfl := vR_inv hv
          have hhas : Maps.has D (key x) = true := has_true_of_atKey hat
          obtain ⟨q, a, A, ll, cc, rfl, rfl, hkp, hac⟩ := HKEY.out x v hhas hat
          have HKP := Lib.hid hkp
          have hur : w.heap.size ≠ r := by omega
          have X1 := (show Blk w1 w.heap.size 4 _ from (hg1.block w.heap.size X.out.lt (by intro e; injection e with e; omega)).trans X.out)
          have XA := Lib.hid (X1.alloc (.cells #[.int .i64 (a : Int), .slice A ll cc] 72))
          have q1 := XA.out.cell a
          have q2 := XA.out.frozen a
          have hul : a < (uL (fun q => (q = 0 ∨ q = 1 ∨ (q : Int) ∈ S.tabs) ∨ ∃ i p, S.kept i = some p ∧ p.1 = q ∧ left (key i) = false) c).length := by rw [uL_len]; exact hac
          obtain ⟨ub, hub⟩ : ∃ ub, (uL (fun q => (q = 0 ∨ q = 1 ∨ (q : Int) ∈ S.tabs) ∨ ∃ i p, S.kept i = some p ∧ p.1 = q ∧ left (key i) = false) c)[a]'hul = ub := ⟨_, rfl⟩
          rw [List.getElem?_map, List.getElem?_eq_getElem hul, hub, Option.map_some] at q1
          have haci : (a : Int) < (c : Int) := by omega
          have B1 := Lib.hid (show Below w.heap.size w w1 from B.out.trans ⟨hg1.os, hg1.tape, hg1.output, hg1.size, fun k hk => hg1.block k (by have := B.out.size; omega) (fun e => by injection e with e; omega)⟩)
          have RG1 := Lib.hid hrg1
          have HLT := Lib.hid hlt
          clear hub hkp X1 hul hkey hlk hv hat hhas hrg1 hlt hg1 hs1
          go_wp2_with fail
          have XS := XA.out.set_ a (.bool true)
          have hgS : (w1.alloc (.cells #[.int .i64 (a : Int), .slice A ll cc] 72)).grownBy ((w1.alloc (.cells #[.int .i64 (a : Int), .slice A ll cc] 72)).setCell ⟨w.heap.size, a, none⟩ (.bool true)) (some w.heap.size) := by
            have o := (Only.refl (w1.alloc (.cells #[.int .i64 (a : Int), .slice A ll cc] 72)) (fun k => k = w.heap.size)).setCell (p := ⟨w.heap.size, a, none⟩) (fun _ => rfl) (.bool true)
            exact ⟨o.os, o.tape, o.output, o.size, fun k hk hn => o.block k hk (fun e => hn (by rw [e]))⟩
          have RG2 := Lib.hid ((RG1.out.alloc (.cells #[.int .i64 (a : Int), .slice A ll cc] 72)).kept hgS (by intro e; injection e with e; have := HOWN.out.lt; omega) (by intro e; injection e with e; omega))
          have B2 := Lib.hid ((B1.out.alloc (by have := B1.out.size; omega) (.cells #[.int .i64 (a : Int), .slice A ll cc] 72)).setCell (p := ⟨w.heap.size, a, none⟩) (Nat.le_refl _) (.bool true))
          have XS2 := Lib.hid XS
          clear XS hgS
          go_roundw
          case measure => rw [RG2.out.left_eq, RG.out.left_eq]; exact HLT.out
          case rel =>
            refine ⟨_, _, RG2.out, ⟨B2.out⟩, ⟨?_⟩⟩
            have h := XS2.out
            rw [set_bool, uL_set _ _ _ hac, uL_congr (Q := fun z => (z = 0 ∨ z = 1 ∨ (z : Int) ∈ S.tabs) ∨ ∃ i p, S.kept i = some p ∧ p.1 = z ∧ (left (key i) && !(key i).sameKey (key (q : Int))) = false) (fun z => by
              constructor
              · rintro ((h | ⟨i, p, h1, h2, h3⟩) | h)
                · exact .inl h
                · exact .inr ⟨i, p, h1, h2, by rw [h3]; rfl⟩
                · obtain ⟨p, h4, h5⟩ := HKP.out
                  exact .inr ⟨q, p, h4, by omega, by rw [WideAt.sameKey_self (key_lit _)]; simp⟩
              · rintro (h | ⟨i, p, h1, h2, h3⟩)
                · exact .inl (.inl h)
                · by_cases hl : left (key i) = false
                  · exact .inl (.inr ⟨i, p, h1, h2, hl⟩)
                  · have hl2 : left (key i) = true := by simpa using hl
                    rw [hl2] at h3
                    have h4 : (key (i : Int)).sameKey (key (q : Int)) = true := by simpa using h3
                    have h5 := key_inj (WideAt.sameKey_eq h4)
                    obtain rfl : i = q := by omega
                    obtain ⟨p', h6, h7⟩ := HKP.out
                    rw [h1] at h6
                    injection h6 with h6
                    subst h6
                    exact .inr (by omega))] at h
            exact h
end Go.Proofs.Ytochnokfcfmgnaa.St
end

section
/- Seat F: the pages that are free; how many a commit would write at most, walked. -/
namespace Go.Proofs.Ytochnokfcfmgnaa.St
open Go Go.RowKit Go.Proofs.Ytochnokfcfmgnaa.Mem Go.Proofs.YtochnokfcfmgnaaW.PrintWords Go.Proofs.Ytochnokfcfmgnaa.Dk Go.Maps Go.ChangeMaps Go.Proofs.Ytochnokfcfmgnaa.Sh Go.Proofs.Ytochnokfcfmgnaa.Sp
set_option linter.unusedVariables false
set_option linter.unusedSimpArgs false
set_option maxRecDepth 100000
set_option maxHeartbeats 4000000
/-- The places that are not taken. -/
def frU : List Bool → Nat → List Int
  | [], _ => []
  | b :: r, i => if b = true then frU r (i + 1) else (i : Int) :: frU r (i + 1)
theorem frU_mem : ∀ (u : List Bool) (i : Nat) (x : Int), x ∈ frU u i ↔ ∃ j, ∃ h : j < u.length, u[j] = false ∧ x = ((i + j : Nat) : Int)
  | [], i, x => by simp [frU]
  | b :: r, i, x => by
    have ih := frU_mem r (i + 1) x
    unfold frU
    cases b with
    | true =>
      rw [if_pos rfl, ih]
      constructor
      · rintro ⟨j, h, h1, h2⟩; exact ⟨j + 1, by simpa using h, by simpa using h1, by rw [h2]; congr 1; omega⟩
      · rintro ⟨j, h, h1, h2⟩
        cases j with
        | zero => simp at h1
        | succ j => exact ⟨j, by simpa using h, by simpa using h1, by rw [h2]; congr 1; omega⟩
    | false =>
      rw [if_neg (by decide), List.mem_cons, ih]
      constructor
      · rintro (h | ⟨j, h, h1, h2⟩)
        · exact ⟨0, by simp, rfl, by rw [h]; rfl⟩
        · exact ⟨j + 1, by simpa using h, by simpa using h1, by rw [h2]; congr 1; omega⟩
      · rintro ⟨j, h, h1, h2⟩
        cases j with
        | zero => exact .inl (by rw [h2]; rfl)
        | succ j => exact .inr ⟨j, by simpa using h, by simpa using h1, by rw [h2]; congr 1; omega⟩
theorem frU_pairwise : ∀ (u : List Bool) (i : Nat), (frU u i).Pairwise (· < ·)
  | [], i => List.Pairwise.nil
  | b :: r, i => by
    have ih := frU_pairwise r (i + 1)
    unfold frU
    cases b with
    | true => rw [if_pos rfl]; exact ih
    | false =>
      rw [if_neg (by decide)]
      refine List.pairwise_cons.2 ⟨fun x hx => ?_, ih⟩
      obtain ⟨j, _, _, h⟩ := (frU_mem r (i + 1) x).1 hx
      omega
theorem frU_len : ∀ (u : List Bool) (i : Nat), (frU u i).length ≤ u.length
  | [], i => Nat.le_refl _
  | b :: r, i => by
    have ih := frU_len r (i + 1)
    unfold frU
    cases b with
    | true => rw [if_pos rfl]; simp; omega
    | false => rw [if_neg (by decide)]; simp; omega
/-- The first m of them. -/
def firstV (u : List Bool) (m : Nat) : List Int × Int := if (frU u 0).length < m then ([], 7) else ((frU u 0).take m, 0)
theorem w64n {i : Int} (h0 : 0 ≤ i) (h : i ≤ 100000) : wrap64 i = i := by unfold wrap64; omega
theorem first_l0 (u : List Bool) (hu : u.length ≤ 1000) (m : Nat) : ∀ (k i : Nat) (acc : List Int), i ≤ u.length → u.length < k + i → acc.length ≤ m → acc.length ≤ i →
    PShadowCrashes.pages_First.l0 k (m : Int) acc u (u.length : Int) (i : Int) = some (if ((acc ++ frU (u.drop i) i).take m).length < m then ([], 7) else ((acc ++ frU (u.drop i) i).take m, 0))
  | 0, i, acc, hi, hk, _, _ => by omega
  | k + 1, i, acc, hi, hk, ha, hai => by
    rw [PShadowCrashes.pages_First.l0]
    by_cases hlt : i < u.length
    · rw [if_pos (by omega), if_pos (by omega), if_pos (by omega), w64n (by omega) (by omega), show ((i : Int) + 1) = ((i + 1 : Nat) : Int) by omega]
      have hr : rdOf false u (i : Int) = u[i] := by unfold rdOf; rw [Int.toNat_natCast, List.getD_eq_getElem?_getD, List.getElem?_eq_getElem hlt]; rfl
      rw [hr, List.drop_eq_getElem_cons hlt]
      cases hb : u[i] with
      | true =>
        rw [if_pos rfl, first_l0 u hu m k (i + 1) acc (by omega) (by omega) ha (by omega)]
        rfl
      | false =>
        have hf : frU (false :: u.drop (i + 1)) i = (i : Int) :: frU (u.drop (i + 1)) (i + 1) := rfl
        rw [if_neg (by decide), hf]
        by_cases hm : acc.length < m
        · rw [if_pos (by omega), if_pos (by omega), first_l0 u hu m k (i + 1) (acc ++ [(i : Int)]) (by omega) (by omega) (by simp; omega) (by simp; omega)]
          simp
        · rw [if_neg (by omega), first_l0 u hu m k (i + 1) acc (by omega) (by omega) ha (by omega)]
          have e1 : (acc ++ frU (u.drop (i + 1)) (i + 1)).take m = acc := by rw [List.take_append_of_le_length (by omega)]; exact List.take_of_length_le ha
          have e2 : (acc ++ (i : Int) :: frU (u.drop (i + 1)) (i + 1)).take m = acc := by rw [List.take_append_of_le_length (by omega)]; exact List.take_of_length_le ha
          rw [e1, e2]
    · rw [if_neg (by omega), List.drop_of_length_le (by omega)]
      have e1 : (acc ++ frU [] i).take m = acc := by show (acc ++ []).take m = acc; rw [List.append_nil]; exact List.take_of_length_le ha
      rw [e1]
      by_cases hm : acc.length < m
      · rw [if_pos (by omega), if_pos hm]
      · rw [if_neg (by omega), if_neg hm]
theorem first_f (u : List Bool) (hu : u.length ≤ 1000) (m : Nat) : PShadowCrashes.pages_First.f 2000 u (m : Int) = some (firstV u m) := by
  have h := first_l0 u hu m 2000 0 [] (by omega) (by omega) (by simp) (by simp)
  unfold PShadowCrashes.pages_First.f
  rw [if_neg (by omega)]
  refine h.trans ?_
  rw [List.nil_append, List.drop_zero, List.length_take]
  unfold firstV
  by_cases hl : (frU u 0).length < m
  · rw [if_pos (by omega), if_pos hl]
  · rw [if_neg (by omega), if_neg hl]
theorem bools_C {w : World} {B : Nat} {xs : List Bool} (h : Blk w B 4 (xs.map Value.bool)) (hl : xs.length ≤ 1000) : Kd.bool.C w (some ⟨B, 0, none⟩) xs.length xs := by
  refine ⟨rfl, by omega, fun _ => ⟨_, rfl, fun j p hj => ⟨[.bool p], rfl, rfl, fun i u hu => ?_⟩⟩⟩
  obtain ⟨hjl, rfl⟩ := List.getElem?_eq_some_iff.1 hj
  match i, hu with
  | 0, hu =>
    injection hu with hu
    have e : Kd.bool.sz = 1 := rfl
    rw [← hu, add_flat, e, Nat.mul_one, Nat.add_zero, Nat.zero_add, h.cell j, List.getElem?_map, List.getElem?_eq_getElem hjl]
    rfl
theorem first_c (B : Nat) (u : List Bool) (m : Nat) (w : World) (h : Blk w B 4 (u.map Value.bool)) (hl : u.length ≤ 1000) :
    Calls Try.prog 58 #[.slice (some ⟨B, 0, none⟩) u.length u.length, .int .i64 (m : Int)] w fun e w' => ∃ v, e = .returned (.tuple #[v, .int .i64 (firstV u m).2]) ∧ (Kd.int .i64).R 3 w' w.heap.size (fun _ => True) v (firstV u m).1 ∧ Below w.heap.size w w' :=
  PShadowCrashes.pages_First.calls 2000 (some ⟨B, 0, none⟩) u.length u (m : Int) (firstV u m).1 (firstV u m).2 w (bools_C h hl) (Nat.le_refl _) (first_f u hl m)
/-- Pages that lie nowhere yet. -/
def freshN (f : PM) : List Nat := (keysN f).filter (fun q => match f q with | none => false | some p => decide (p.1 = 0))
theorem tabF_snd (f : PM) (pl : List Int) : ∀ (n : Nat) (ks : List Nat), ks.length = n → (tabF f pl ks).2 = (ks.filter (fun q => match f q with | none => false | some p => decide (p.1 = 0))).map Int.ofNat
  | 0, ks, e => by
    obtain rfl : ks = [] := List.length_eq_zero_iff.1 e
    rfl
  | n + 1, ks, e => by
    obtain ⟨l, q, rfl⟩ : ∃ l q, ks = l ++ [q] := by
      have hne : ks ≠ [] := by intro h; rw [h] at e; cases e
      exact ⟨ks.dropLast, ks.getLast hne, (List.dropLast_concat_getLast hne).symm⟩
    have ih := tabF_snd f pl n l (by simpa using e)
    rw [tabF_snoc, List.filter_append, List.map_append]
    unfold tabStep
    cases hf : f q with
    | none => dsimp only; rw [ih]; simp [hf]
    | some p =>
      dsimp only
      by_cases hp : p.1 = 0
      · rw [if_pos hp, ih]; simp [hf, hp]
      · rw [if_neg hp, ih]; simp [hf, hp]
theorem tab_snd (f : PM) (pl : List Int) : (tab f pl).2 = (freshN f).map Int.ofNat := tabF_snd f pl _ _ rfl
theorem freshN_len (f : PM) : (freshN f).length ≤ 728 := Nat.le_trans (List.length_filter_le _ _) (keysN_len f)
/-- How many table pages hold so many bytes. -/
def pagesN (n : Nat) : Nat := (n + 111) / 112
theorem Ok.small {n : Nat} {S : SV} (h : Ok n S) {pl : List Int} (hp : ∀ y ∈ pl, 0 ≤ y ∧ y < 34359738368) : Small S.now pl :=
  ⟨hp, fun q p hq => ⟨(h.now q p hq).1, by
    rcases (h.now q p hq).2.1 with h1 | h1
    · omega
    · have := (h.kept q p h1).2.2.1
      have := h.n2
      omega⟩⟩
theorem table_c {w : World} {own : Nat → Nat} {base g s : Nat} {S : SV} (h : St w own base g s S) (A : Option Addr) (c : Nat) (pl : List Int) (hC : (Kd.int .i64).C w A pl.length pl) (hc : pl.length ≤ c) (hS : Small S.now pl) :
    Calls Try.prog 57 #[.pointer (some ⟨s, 0, none⟩), .slice A pl.length c] w fun e w' => ∃ bv fv, e = .returned (.tuple #[bv, fv]) ∧ (Kd.int .u8).R 5 w' w.heap.size (fun _ => True) bv (tab S.now pl).1 ∧ (Kd.int .i64).R 3 w' w.heap.size (fun _ => True) fv ((freshN S.now).map Int.ofNat) ∧ Below w.heap.size w w' := by
  refine (callsIn_wide.1 (table_in h A c pl hC hc hS)).mono ?_
  rintro e w' ⟨bv, fv, rfl, h1, h2, h3⟩
  refine ⟨bv, fv, rfl, h1, ?_, h3⟩
  rw [tab_snd] at h2
  exact Kd.R_of_own (enc := Value.int .i64) (h1 := fun _ => rfl) h2 (fun _ _ => trivial)
theorem tab_len {f : PM} {pl : List Int} (h : Small f pl) : (tab f pl).1.length ≤ 7280 := by
  have := (tabF_len h _ (keysN f) rfl).1
  have := keysN_len f
  unfold tab
  omega
end Go.Proofs.Ytochnokfcfmgnaa.St
end

section
/- Seat F: most and plan, walked. -/
namespace Go.Proofs.Ytochnokfcfmgnaa.St
open Go Go.RowKit Go.Proofs.Ytochnokfcfmgnaa.Mem Go.Proofs.YtochnokfcfmgnaaW.PrintWords Go.Proofs.Ytochnokfcfmgnaa.Dk Go.Maps Go.ChangeMaps Go.Proofs.Ytochnokfcfmgnaa.Sh Go.Proofs.Ytochnokfcfmgnaa.Sp
set_option linter.unusedVariables false
set_option linter.unusedSimpArgs false
set_option maxRecDepth 100000
set_option maxHeartbeats 4000000
theorem results_tmp4 {fn : Func} {t u v x : Tmp} (h : fn.results = #[.tmp t, .tmp u, .tmp v, .tmp x]) (tmps : Array Value) (P : Program) (w : World) :
    (results fn tmps).run P w = .ok (.tuple #[tmps.getD t undef, tmps.getD u undef, tmps.getD v undef, tmps.getD x undef]) w := by
  simp [results, h]
theorem made_ints (n : Nat) : madeCells #[.int .i64 0] n = (icells .i64 (List.replicate n 0)).toArray := by
  apply Array.ext
  · simp [madeCells, icells]
  · intro i h1 h2
    simp [madeCells, icells]
    rw [Nat.mod_one]; rfl
theorem make_ints (n : Nat) (hn : n ≤ 65536) (w : World) : (Instr.makeSlice 43 (.int .i64 (n : Int)) (.int .i64 (n : Int))).run Try.prog w = .ok (.slice (some ⟨w.heap.size, 0, none⟩) n n) (w.alloc (.cells (icells .i64 (List.replicate n 0)).toArray 3)) := by
  have := run_make_row' (P := Try.prog) 43 3 (.int .i64 0) 8 Try.underlying43 info3 rfl .i64 .i64 n (by omega) (by omega) w
  rw [made_ints] at this
  exact this
/-- How many pages a commit would write, if there were room. -/
def mostV (S : SV) (c fr : Nat) : Int := ((fr + pagesN (tab S.now (List.replicate fr ((c : Int) - 1))).1.length : Nat) : Int)
theorem fill_step (k m : Nat) (x : Int) (hk : k < m) : (List.replicate k x ++ List.replicate (m - k) (0 : Int)).set k x = List.replicate (k + 1) x ++ List.replicate (m - (k + 1)) 0 := by
  rw [List.set_append_right _ _ (by simp), List.length_replicate, Nat.sub_self, show m - k = (m - (k + 1)) + 1 by omega, List.replicate_succ, List.set_cons_zero, List.replicate_succ', List.append_assoc]
  rfl
theorem most_c {w : World} {own : Nat → Nat} {base g s n : Nat} {S : SV} (h : St w own base g s S) (hO : Ok n S) (fr : Nat) (hfr : fr ≤ 728) :
    Calls Try.prog 59 #[.pointer (some ⟨s, 0, none⟩), .int .i64 (fr : Int)] w fun e w' => e = .returned (.int .i64 (mostV S (n / 4) fr)) ∧ Below w.heap.size w w' := by
  have H0 := Lib.hid h
  obtain ⟨c, hc⟩ : ∃ c, c = n / 4 := ⟨_, rfl⟩
  have hc3 : 3 ≤ c := by have := hO.n1; omega
  have hc1 : c ≤ 100 := by have := hO.n2; omega
  have hci : (c : Int) ≤ 100 := by omega
  have hci3 : (3 : Int) ≤ (c : Int) := by omega
  have hfi : (fr : Int) ≤ 728 := by omega
  have CO : Hid (∀ W, Below w.heap.size w W → Calls Try.prog 45 #[.pointer (some ⟨g, 0, none⟩)] W fun e w' => e = .returned (.int .i64 (c : Int)) ∧ W = w') := Lib.hid (fun W hb => by rw [hc]; exact Pg.count_any (h.below hb 0).disk hO.good)
  have HSM := Lib.hid (hO.small (pl := List.replicate fr ((c : Int) - 1)) (fun y hy => by rw [(List.mem_replicate.1 hy).2]; omega))
  obtain ⟨bk, bn, tv, hs, _⟩ := h.blk
  have HS := Lib.hid hs
  have hmk := fun u => make_ints fr (by omega) u
  rw [← hc]
  clear hs h hO hc
  go_enter Try.func59, Try.ntmps59
  go_wp2_with fail
  have BU := Lib.hid ((Below.refl w.heap.size w).alloc (Nat.le_refl _) (.cells (icells .i64 (List.replicate fr 0)).toArray 3))
  have XU := Lib.hid (Blk.new w 3 (icells .i64 (List.replicate fr 0)))
  generalize w.alloc (.cells (icells .i64 (List.replicate fr 0)).toArray 3) = wU at *
  go_loopg [13] fr (fun mm iv wr => ∃ k : Nat, iv = .int .i64 k ∧ Aside1 (k + mm = fr) ∧ Aside1 (Below w.heap.size w wr) ∧ Aside1 (Blk wr w.heap.size 3 (icells .i64 (List.replicate k ((c : Int) - 1) ++ List.replicate (fr - k) 0))))
  case atStart => exact ⟨0, rfl, ⟨by omega⟩, ⟨BU.out⟩, ⟨XU.out⟩⟩
  case round =>
    obtain ⟨k, rfl, ⟨hkm⟩, ⟨hB⟩, ⟨hX⟩⟩ := hrel
    have KM := Lib.hid hkm
    have B := Lib.hid hB
    have X := Lib.hid hX
    have hk0 : (k : Int) ≤ 728 := by omega
    clear hkm hB hX BU XU
    have c0 := (HS.out.below B.out HS.out.lt).cell_at 0 _ rfl
    by_cases hk : k < fr
    · have hki : (k : Int) < (fr : Int) := by omega
      have q1 := X.out.cell k
      have hl : k < (List.replicate k ((c : Int) - 1) ++ List.replicate (fr - k) 0).length := by simp; omega
      rw [icells_get _ _ _ hl] at q1
      have q2 := X.out.frozen k
      obtain ⟨uo, huo⟩ : ∃ uo, (List.replicate k ((c : Int) - 1) ++ List.replicate (fr - k) 0)[k]'hl = uo := ⟨_, rfl⟩
      rw [huo] at q1
      have XS := Lib.hid (X.out.set_ k (.int .i64 ((c : Int) - 1)))
      clear huo
      go_wp2_with (first
        | (go_at_call 45; refine (CO.out _ B.out).mono ?_; rintro e wz ⟨rfl, hwz⟩; rw [← hwz]; clear hwz)
        | fail)
      go_roundg (gk - 1)
      case measure => have := KM.out; omega
      case rel => exact ⟨k + 1, (by simp), ⟨by have := KM.out; omega⟩, ⟨B.out.setCell (p := ⟨w.heap.size, k, none⟩) (Nat.le_refl _) _⟩, ⟨by have h := XS.out; rw [icells_set, fill_step _ _ _ hk] at h; exact h⟩⟩
    · have hki : ¬ (k : Int) < (fr : Int) := by omega
      obtain rfl : k = fr := by have := KM.out; omega
      have hX2 := X.out
      rw [Nat.sub_self, List.replicate_zero, List.append_nil] at hX2
      have hC := C_of_blk (o := 0) (n := k) (k := .i64) (by exact hX2) (by simp) (by simp; omega)
      rw [List.drop_zero, List.take_of_length_le (by simp)] at hC
      have hT := table_c (H0.out.below B.out 0) (some ⟨w.heap.size, 0, none⟩) k (List.replicate k ((c : Int) - 1)) (by rw [List.length_replicate]; exact hC) (by simp) HSM.out
      rw [List.length_replicate] at hT
      have TB := Lib.hid hT
      have htl := tab_len HSM.out
      have HMV := Lib.hid (show mostV S c k = ((k + pagesN (tab S.now (List.replicate k ((c : Int) - 1))).1.length : Nat) : Int) from rfl)
      obtain ⟨tl, htle⟩ : ∃ tl, tl = (tab S.now (List.replicate k ((c : Int) - 1))).1 := ⟨_, rfl⟩
      rw [← htle] at TB htl HMV
      have htli : (tl.length : Int) ≤ 7280 := by omega
      clear hX2 hC hT htle
      go_wp2_with (first
        | (go_at_call 57; refine TB.out.mono ?_; rintro e w2 ⟨bv, fv, rfl, r1, r2, b2⟩; obtain ⟨Ab, cb, rfl⟩ := Kd.R_slice r1; have B2 := Lib.hid (B.out.trans (b2.mono B.out.size)); clear r1 r2 b2)
        | fail)
      go_ret
      refine ⟨?_, B2.out⟩
      rw [HMV.out]
      unfold pagesN
      show Ending.returned (.int .i64 ((k : Int) + ((tl.length : Int) + 112 - 1) / 112)) = _
      rw [show ((k : Int) + ((tl.length : Int) + 112 - 1) / 112) = ((k + (tl.length + 111) / 112 : Nat) : Int) by omega]
theorem Row.take {w : World} {ok : Nat → Prop} {k : IntKind} {b o c n : Nat} {xs : List Int} (hok : ok b) (hl : b < w.heap.size) (hn : n = xs.length) (hc : n ≤ c) (h5 : n ≤ 100000) (hcell : ∀ j (hj : j < xs.length), w.cell? ⟨b, o + j, none⟩ = some (.int k xs[j])) (i : Nat) (hi : i ≤ n) :
    Row w ok k (.slice (some ⟨b, o, none⟩) i c) (xs.take i) := by
  have e : (xs.take i).length = i := by rw [List.length_take]; omega
  refine ⟨_, c, by rw [e], by rw [e]; omega, by rw [e]; omega, .inr ⟨b, o, rfl, hok, hl, fun j hj => ?_⟩⟩
  rw [List.getElem_take]
  exact hcell j (by rw [e] at hj; omega)
theorem Row.drop {w : World} {ok : Nat → Prop} {k : IntKind} {b o c n : Nat} {xs : List Int} (hok : ok b) (hl : b < w.heap.size) (hn : n = xs.length) (hc : n ≤ c) (h5 : n ≤ 100000) (hcell : ∀ j (hj : j < xs.length), w.cell? ⟨b, o + j, none⟩ = some (.int k xs[j])) (i : Nat) (hi : i ≤ n) :
    Row w ok k (.slice (some ⟨b, o + i, none⟩) (n - i) (c - i)) (xs.drop i) := by
  have e : (xs.drop i).length = n - i := by rw [List.length_drop]; omega
  refine ⟨_, c - i, by rw [e], by rw [e]; omega, by rw [e]; omega, .inr ⟨b, o + i, rfl, hok, hl, fun j hj => ?_⟩⟩
  rw [List.getElem_drop, Nat.add_assoc]
  exact hcell (i + j) (by rw [e] at hj; omega)
/-- The places that are free. -/
noncomputable def freeS (S : SV) (c : Nat) : List Int := frU (uL (usedP S) c) 0
theorem freeS_len (S : SV) (c : Nat) : (freeS S c).length ≤ c := by have := frU_len (uL (usedP S) c) 0; rw [uL_len] at this; exact this
theorem freeS_mem {S : SV} {c : Nat} {x : Int} : x ∈ freeS S c ↔ ∃ k : Nat, k < c ∧ ¬ usedP S k ∧ x = (k : Int) := by
  unfold freeS
  rw [frU_mem]
  constructor
  · rintro ⟨j, h, h1, h2⟩
    refine ⟨j, by rw [uL_len] at h; exact h, fun hu => ?_, by rw [h2]; simp⟩
    rw [(uL_at h).2 hu] at h1
    cases h1
  · rintro ⟨k, h, h1, h2⟩
    have hl : k < (uL (usedP S) c).length := by rw [uL_len]; exact h
    refine ⟨k, hl, ?_, by rw [h2]; simp⟩
    cases hb : (uL (usedP S) c)[k] with
    | false => rfl
    | true => exact absurd ((uL_at hl).1 hb) h1
/-- Where a commit writes its pages: data, tables; how many; the error. -/
noncomputable def planN (S : SV) (c fr : Nat) : Nat → Nat → List Int × List Int × Int × Int
  | 0, _ => ([], [], mostV S c fr, 7)
  | k + 1, n => if (freeS S c).length < fr + n then ([], [], mostV S c fr, 7) else if pagesN (tab S.now ((freeS S c).take fr)).1.length ≤ n then ((freeS S c).take fr, ((freeS S c).take (fr + n)).drop fr, ((fr + n : Nat) : Int), 0) else planN S c fr k (n + 1)
noncomputable def planV (S : SV) (c : Nat) : List Int × List Int × Int × Int := planN S c (freshN S.now).length (c + 2) 0
theorem plan_c {w : World} {own : Nat → Nat} {base g s n : Nat} {S : SV} (h : St w own base g s S) (hO : Ok n S) :
    Calls Try.prog 42 #[.pointer (some ⟨s, 0, none⟩)] w fun e w' => ∃ dv tv, e = .returned (.tuple #[dv, tv, .int .i64 (planV S (n / 4)).2.2.1, .int .i64 (planV S (n / 4)).2.2.2]) ∧ Row w' (fun k => w.heap.size ≤ k) .i64 dv (planV S (n / 4)).1 ∧ Row w' (fun k => w.heap.size ≤ k) .i64 tv (planV S (n / 4)).2.1 ∧ Below w.heap.size w w' := by
  have H0 := Lib.hid h
  have HO := Lib.hid hO
  obtain ⟨c, hc⟩ : ∃ c, c = n / 4 := ⟨_, rfl⟩
  have hc3 : 3 ≤ c := by have := hO.n1; omega
  have hc1 : c ≤ 100 := by have := hO.n2; omega
  have US := Lib.hid (used_c h hO)
  have HCE := Lib.hid hc
  rw [← hc] at US ⊢
  have hfl := freeS_len S c
  obtain ⟨fr, hfr⟩ : ∃ fr, fr = (freshN S.now).length := ⟨_, rfl⟩
  have hfr2 : fr ≤ 728 := by rw [hfr]; exact freshN_len _
  have hfri : (fr : Int) ≤ 728 := by omega
  have T0 : Hid (∀ W, Below w.heap.size w W → Calls Try.prog 57 #[.pointer (some ⟨s, 0, none⟩), .slice none 0 0] W fun e w' => ∃ bv fv, e = .returned (.tuple #[bv, fv]) ∧ (Kd.int .u8).R 5 w' W.heap.size (fun _ => True) bv (tab S.now []).1 ∧ (Kd.int .i64).R 3 w' W.heap.size (fun _ => True) fv ((freshN S.now).map Int.ofNat) ∧ Below W.heap.size W w') := Lib.hid (fun W hb => table_c (h.below hb 0) none 0 [] (Kd.C_nil (Kd.int .i64) W) (Nat.le_refl _) (hO.small (fun y hy => absurd hy List.not_mem_nil)))
  have HPV := Lib.hid (show planV S c = planN S c fr (c + 2) 0 by unfold planV; rw [hfr])
  have HFR := Lib.hid hfr
  clear h hO hc hfr
  go_enter Try.func42, Try.ntmps42
  go_wp2_with (first
    | (go_at_call 41; refine US.out.mono ?_; rintro e w1 ⟨B, rfl, hBw, hX, b1⟩; have XU := Lib.hid hX; have B1 := Lib.hid b1; clear hX b1)
    | (go_at_call 57; refine (T0.out _ B1.out).mono ?_; rintro e w2 ⟨bv, fv, rfl, r1, r2, b2⟩
       obtain ⟨fl, hfl2⟩ : ∃ fl, fl = (freshN S.now).map Int.ofNat := ⟨_, rfl⟩
       have hfll : fl.length = fr := by rw [hfl2, List.length_map, HFR.out]
       rw [← hfl2] at r2
       obtain ⟨Af, cf, rfl⟩ := Kd.R_slice r2
       rw [hfll]
       have XU2 := Lib.hid (XU.out.below b2 XU.out.lt)
       have B2 := Lib.hid (B1.out.trans (b2.mono B1.out.size))
       clear r1 r2 b2 hfl2 hfll)
    | fail)
  go_loopg [9] (c + 2) (fun mm iv wr => ∃ k : Nat, iv = .int .i64 k ∧ Aside1 (k + mm = c + 2 ∧ k ≤ c + 1) ∧ Aside1 (planV S c = planN S c fr mm k) ∧ Aside1 (Below w2.heap.size w2 wr))
  case atStart => exact ⟨0, rfl, ⟨by omega, by omega⟩, ⟨HPV.out⟩, ⟨Below.refl _ _⟩⟩
  case round =>
    obtain ⟨k, rfl, ⟨hkm, hk1⟩, ⟨hP⟩, ⟨hB⟩⟩ := hrel
    have KM := Lib.hid hkm
    have HP := Lib.hid hP
    have BR := Lib.hid hB
    have B3 := Lib.hid (B2.out.trans (hB.mono B2.out.size))
    have hki : (k : Int) ≤ 101 := by omega
    obtain ⟨m, rfl⟩ : ∃ m, gk = m + 1 := ⟨gk - 1, by omega⟩
    clear hkm hP hB
    have XR := Lib.hid (XU2.out.below BR.out XU2.out.lt)
    have hfc := first_c B (uL (usedP S) c) (fr + k) wr XR.out (by rw [uL_len]; omega)
    rw [uL_len, show (((fr + k : Nat) : Nat) : Int) = (fr : Int) + (k : Int) by omega] at hfc
    have FC := Lib.hid hfc
    clear hfc
    by_cases hlt : (freeS S c).length < fr + k
    · have hV : firstV (uL (usedP S) c) (fr + k) = ([], 7) := if_pos hlt
      rw [hV] at FC
      have hPV : planV S c = ([], [], mostV S c fr, 7) := by rw [HP.out]; unfold planN; rw [if_pos hlt]
      have HPV2 := Lib.hid hPV
      have MO : Hid (∀ W, Below w.heap.size w W → Calls Try.prog 59 #[.pointer (some ⟨s, 0, none⟩), .int .i64 (fr : Int)] W fun e w' => e = .returned (.int .i64 (mostV S c fr)) ∧ Below W.heap.size W w') := Lib.hid (fun W hb => by rw [HCE.out]; exact most_c (H0.out.below hb 0) HO.out fr hfr2)
      clear hV hPV
      go_wp2_with (first
        | (go_at_call 58; refine FC.out.mono ?_; rintro e w4 ⟨v, rfl, r4, b4⟩; have B4 := Lib.hid (B3.out.trans (b4.mono B3.out.size)); clear r4 b4)
        | (go_at_call 59; refine (MO.out _ B4.out).mono ?_; rintro e w5 ⟨rfl, b5⟩; have B5 := Lib.hid (B4.out.trans (b5.mono B4.out.size)); clear b5)
        | fail)
      rw [HPV2.out]
      (try simp only [Exit.inBlock, Exit.then])
      refine bodyPost_ret (results_tmp4 rfl _ _ _) rfl ?_
      exact ⟨_, _, rfl, Row.nil _ _ _, Row.nil _ _ _, B5.out⟩
    · obtain ⟨L, hL⟩ : ∃ L, L = (freeS S c).take (fr + k) := ⟨_, rfl⟩
      have hLl : L.length = fr + k := by rw [hL, List.length_take]; omega
      have hV : firstV (uL (usedP S) c) (fr + k) = (L, 0) := by rw [hL]; exact if_neg hlt
      rw [hV] at FC
      have hdat : L.take fr = (freeS S c).take fr := by rw [hL, List.take_take, Nat.min_eq_left (by omega)]
      have hL1 : fr + k ≤ 100 := by omega
      have HSM := Lib.hid (HO.out.small (pl := (freeS S c).take fr) (fun y hy => by obtain ⟨q, h1, _, rfl⟩ := freeS_mem.1 (List.mem_of_mem_take hy); omega))
      obtain ⟨tl, htle⟩ : ∃ tl, tl = (tab S.now ((freeS S c).take fr)).1 := ⟨_, rfl⟩
      have htl := tab_len HSM.out
      rw [← htle] at htl
      have htli : (tl.length : Int) ≤ 7280 := by omega
      have T1 : Hid (∀ W (A : Option Addr) (cc : Nat), Below w.heap.size w W → fr ≤ cc → (Kd.int .i64).C W A fr ((freeS S c).take fr) → Calls Try.prog 57 #[.pointer (some ⟨s, 0, none⟩), .slice A fr cc] W fun e w' => ∃ bv fv, e = .returned (.tuple #[bv, fv]) ∧ (Kd.int .u8).R 5 w' W.heap.size (fun _ => True) bv tl ∧ Below W.heap.size W w') := Lib.hid (fun W A cc hb hcc hC => by
        have el : ((freeS S c).take fr).length = fr := by rw [List.length_take]; omega
        have h := table_c (H0.out.below hb 0) A cc ((freeS S c).take fr) (by rw [el]; exact hC) (by rw [el]; exact hcc) HSM.out
        rw [el, ← htle] at h
        exact h.mono (fun e w' ⟨bv, fv, h1, h2, _, h3⟩ => ⟨bv, fv, h1, h2, h3⟩))
      have HL := Lib.hid hL
      have HLL := Lib.hid hLl
      have HDT := Lib.hid hdat
      have HTL := Lib.hid htle
      have HLT := Lib.hid hlt
      clear hL hV hdat htle hlt
      go_wp2_with fail
      refine FC.out.mono ?_
      rintro e w4 ⟨v, rfl, r4, b4⟩
      have R4 := Lib.hid (Row.of_R (Kd.R_bound r4) (by omega))
      have B4 := Lib.hid (B3.out.trans (b4.mono B3.out.size))
      have BB4 := Lib.hid b4
      clear r4 b4
      obtain ⟨A4, c4, rfl, hc4, h54, hA4⟩ := R4.out
      rcases hA4 with ⟨rfl, rfl⟩ | ⟨b, o, rfl, hob, hbl, hcell⟩
      · obtain rfl : fr = 0 := by have := HLL.out; omega
        obtain rfl : k = 0 := by have := HLL.out; omega
        have T2 := Lib.hid (T1.out w4 none 0 B4.out (Nat.le_refl _) (by rw [List.take_zero]; exact Kd.C_nil (Kd.int .i64) w4))
        have hle0 : L.length = 0 := by have := HLL.out; omega
        rw [hle0]
        by_cases hle : pagesN tl.length ≤ 0
        · have hlei : ((tl.length : Int) + 112 - 1) / 112 ≤ 0 := by unfold pagesN at hle; omega
          have hPV : planV S c = ([], [], 0, 0) := by
            rw [HP.out]
            unfold planN
            rw [if_neg HLT.out, ← HTL.out, if_pos hle]
            simp
          have HPV2 := Lib.hid hPV
          clear hPV hle
          go_wp2_with (first
            | (go_at_call 57; refine T2.out.mono ?_; rintro e w5 ⟨bv5, fv5, rfl, r5, b5⟩; obtain ⟨A5, c5, rfl⟩ := Kd.R_slice r5; have B5 := Lib.hid (B4.out.trans (b5.mono B4.out.size)); have BB5 := Lib.hid b5; clear r5 b5)
            | fail)
          go_region
          go_wp2_with fail
          rw [HPV2.out]
          (try simp only [Exit.inBlock, Exit.then])
          refine bodyPost_ret (results_tmp4 rfl _ _ _) rfl ?_
          exact ⟨_, _, rfl, Row.nil _ _ _, Row.nil _ _ _, B5.out.trans (Below.drew (Below.refl _ _))⟩
        · have hlei : ¬ ((tl.length : Int) + 112 - 1) / 112 ≤ 0 := by unfold pagesN at hle; omega
          have hPV : planV S c = planN S c 0 m (0 + 1) := by
            rw [HP.out]
            conv => lhs; unfold planN
            rw [if_neg HLT.out, ← HTL.out, if_neg hle]
          have HPV2 := Lib.hid hPV
          clear hPV hle
          go_wp2_with (first
            | (go_at_call 57; refine T2.out.mono ?_; rintro e w5 ⟨bv5, fv5, rfl, r5, b5⟩; obtain ⟨A5, c5, rfl⟩ := Kd.R_slice r5; have B5 := Lib.hid (B4.out.trans (b5.mono B4.out.size)); have BB5 := Lib.hid b5; clear r5 b5)
            | fail)
          have BR5 := Lib.hid (show Below w2.heap.size w2 w5 from BR.out.trans ((BB4.out.mono BR.out.size).trans (BB5.out.mono (Nat.le_trans BR.out.size BB4.out.size))))
          go_roundg m
          case measure => omega
          case rel => exact ⟨0 + 1, (by simp), ⟨by have := KM.out; omega, by have := HLT.out; omega⟩, ⟨HPV2.out⟩, ⟨BR5.out⟩⟩
      · have hCd : (Kd.int .i64).C w4 (some ⟨b, o, none⟩) fr ((freeS S c).take fr) := by
          obtain ⟨A', c', hv, _, hC, _⟩ := (Row.take (ok := fun _ => True) trivial hbl rfl hc4 h54 hcell fr (by omega)).reads
          injection hv with hA hf hcc
          rw [← HDT.out]
          have e : (L.take fr).length = fr := by rw [List.length_take]; omega
          rw [e] at hC
          rw [hA]
          exact hC
        have T2 := Lib.hid (T1.out w4 (some ⟨b, o, none⟩) c4 B4.out (by omega) hCd)
        have HCELL := Lib.hid hcell
        have HOB := Lib.hid hob
        have hfrc : (fr : Int) ≤ (c4 : Int) := by omega
        have hfrc2 : (fr : Int) ≤ ((fr + k : Nat) : Int) := by omega
        have hc4' : fr + k ≤ c4 := by omega
        rw [HLL.out]
        clear hcell hob hCd
        by_cases hle : pagesN tl.length ≤ k
        · have hlei : ((tl.length : Int) + 112 - 1) / 112 ≤ (k : Int) := by unfold pagesN at hle; omega
          have hPV : planV S c = ((freeS S c).take fr, ((freeS S c).take (fr + k)).drop fr, ((fr + k : Nat) : Int), 0) := by
            rw [HP.out]
            unfold planN
            rw [if_neg HLT.out, ← HTL.out, if_pos hle]
          have HPV2 := Lib.hid hPV
          clear hPV hle
          go_wp2_with (first
            | (go_at_call 57; refine T2.out.mono ?_; rintro e w5 ⟨bv5, fv5, rfl, r5, b5⟩; obtain ⟨A5, c5, rfl⟩ := Kd.R_slice r5; have B5 := Lib.hid (B4.out.trans (b5.mono B4.out.size)); have BB5 := Lib.hid b5; clear r5 b5)
            | fail)
          go_region
          go_wp2_with fail
          all_goals
            rw [HPV2.out]
            (try simp only [Exit.inBlock, Exit.then])
            refine bodyPost_ret (results_tmp4 rfl _ _ _) rfl ?_
            have hdr : Below w4.heap.size w4 w5.drew := BB5.out.trans (Below.drew (Below.refl _ _))
            have hbl5 : b < w5.drew.heap.size := Nat.lt_of_lt_of_le hbl hdr.size
            have hcell5 : ∀ j (hj : j < L.length), w5.drew.cell? ⟨b, o + j, none⟩ = some (.int .i64 L[j]) := fun j hj => (hdr.cell (p := ⟨b, o + j, none⟩) hbl).trans (HCELL.out j hj)
            have hwb : w.heap.size ≤ b := Nat.le_trans B3.out.size HOB.out.2.1
            refine ⟨_, _, rfl, ?_, ?_, B5.out.trans (Below.drew (Below.refl _ _))⟩
            · rw [← HDT.out]
              have h := Row.take (ok := fun q => w.heap.size ≤ q) hwb hbl5 HLL.out.symm hc4' (by omega) hcell5 fr (by omega)
              first
                | exact h
                | (have hcf : c4 = fr := by assumption
                   rw [hcf] at h
                   exact h)
            · rw [← HL.out]
              first
                | (have h := Row.drop (ok := fun q => w.heap.size ≤ q) hwb hbl5 HLL.out.symm hc4' (by omega) hcell5 fr (by omega)
                   rw [show fr + k - fr = k by omega] at h
                   exact h)
                | (have hk0 : k = 0 := by omega
                   have e : L.drop fr = [] := List.drop_of_length_le (by have := HLL.out; omega)
                   rw [e]
                   subst hk0
                   exact ⟨_, _, rfl, by simp, by simp, .inr ⟨b, o, rfl, hwb, hbl5, fun j hj => absurd hj (by simp)⟩⟩)
        · have hlei : ¬ ((tl.length : Int) + 112 - 1) / 112 ≤ (k : Int) := by unfold pagesN at hle; omega
          have hPV : planV S c = planN S c fr m (k + 1) := by
            rw [HP.out]
            conv => lhs; unfold planN
            rw [if_neg HLT.out, ← HTL.out, if_neg hle]
          have HPV2 := Lib.hid hPV
          clear hPV hle
          go_wp2_with (first
            | (go_at_call 57; refine T2.out.mono ?_; rintro e w5 ⟨bv5, fv5, rfl, r5, b5⟩; obtain ⟨A5, c5, rfl⟩ := Kd.R_slice r5; have B5 := Lib.hid (B4.out.trans (b5.mono B4.out.size)); have BB5 := Lib.hid b5; clear r5 b5)
            | fail)
          have BR5 := Lib.hid (show Below w2.heap.size w2 w5 from BR.out.trans ((BB4.out.mono BR.out.size).trans (BB5.out.mono (Nat.le_trans BR.out.size BB4.out.size))))
          go_roundg m
          case measure => omega
          case rel => exact ⟨k + 1, (by simp), ⟨by have := KM.out; omega, by have := HLT.out; omega⟩, ⟨HPV2.out⟩, ⟨BR5.out⟩⟩
end Go.Proofs.Ytochnokfcfmgnaa.St
end

section
/- Seat F: the root is written, walked. -/
namespace Go.Proofs.Ytochnokfcfmgnaa.St
open Go Go.RowKit Go.Proofs.Ytochnokfcfmgnaa.Mem Go.Proofs.YtochnokfcfmgnaaW.PrintWords Go.Proofs.Ytochnokfcfmgnaa.Dk Go.Maps Go.ChangeMaps Go.Proofs.Ytochnokfcfmgnaa.Sh Go.Proofs.Ytochnokfcfmgnaa.Sp
set_option linter.unusedVariables false
set_option linter.unusedSimpArgs false
set_option maxRecDepth 100000
set_option maxHeartbeats 4000000
/-- A number in so many bytes, the lowest first. -/
def leB (n : Int) : Nat → List Int
  | 0 => []
  | m + 1 => n % 256 :: leB (n / 256) m
theorem leB_len : ∀ (m : Nat) (n : Int), (leB n m).length = m
  | 0, _ => rfl
  | m + 1, n => by unfold leB; simp [leB_len m]
theorem leB_byte : ∀ (m : Nat) (n : Int), ∀ y ∈ leB n m, 0 ≤ y ∧ y < 256
  | 0, _, y, h => by cases h
  | m + 1, n, y, h => by
    unfold leB at h
    rcases List.mem_cons.1 h with h | h
    · omega
    · exact leB_byte m _ y h
theorem lay_l0 (m : Nat) (hm : m ≤ 8) : ∀ (d k i : Nat) (l : List Int) (n : Int), i + d = m → d < k → l.length ≤ 1000 + i → PShadowCrashes.shadow_lay.l0 k l n (m : Int) (i : Int) = some (l ++ leB n d)
  | 0, k, i, l, n, hi, hk, hl => by
    obtain ⟨k, rfl⟩ : ∃ q, k = q + 1 := ⟨k - 1, by omega⟩
    rw [PShadowCrashes.shadow_lay.l0, if_neg (by omega)]
    simp [leB]
  | d + 1, k, i, l, n, hi, hk, hl => by
    obtain ⟨k, rfl⟩ : ∃ q, k = q + 1 := ⟨k - 1, by omega⟩
    rw [PShadowCrashes.shadow_lay.l0, if_pos (by omega), if_pos (by omega), w64n (by omega) (by omega), show ((i : Int) + 1) = ((i + 1 : Nat) : Int) by omega, lay_l0 m hm d k (i + 1) _ _ (by omega) (by omega) (by simp; omega)]
    simp [leB]
theorem lay_f (m : Nat) (hm : m ≤ 8) (l : List Int) (n : Int) (hl : l.length ≤ 1000) : PShadowCrashes.shadow_lay.f 20 l n (m : Int) = some (l ++ leB n m) := lay_l0 m hm m 20 0 l n (by omega) (by omega) (by omega)
def firstT (S : SV) : Int := S.tabs.headD 0
/-- The root's bytes. -/
def rootB (S : SV) : List Int := leB S.epoch 8 ++ leB (firstT S) 4 ++ leB (S.tabs.length : Int) 4 ++ leB 0 8 ++ leB S.epoch 8
theorem rootB_len (S : SV) : (rootB S).length = 32 := by unfold rootB; simp [leB_len]
theorem rootB_byte (S : SV) : ∀ y ∈ rootB S, 0 ≤ y ∧ y < 256 := by
  intro y hy
  unfold rootB at hy
  simp only [List.mem_append] at hy
  rcases hy with (((h | h) | h) | h) | h <;> exact leB_byte _ _ y h
/-- The disk has another content; new blocks are its own. -/
theorem St.disk_step {w w' : World} {own : Nat → Nat} {base g s : Nat} {S : SV} (h : St w own base g s S) {x : DV} (hd : IsDisk w' base (fun k => own k = 1 ∨ w.heap.size ≤ k) g x) (ho : Only w w' (fun k => own k = 1)) : St w' (upd own w.heap.size 1) base g s { S with x := x } := by
  obtain ⟨bk, bn, tv, h1, h2, h3, h4, h5, h6, h7, h8⟩ := h.blk
  have lk := h7.lt
  have ln := h8.lt
  have n3 : ∀ k, own k = 3 → ¬ own k = 1 := fun k h e => by rw [h] at e; cases e
  have n2 : ∀ k, own k = 2 → ¬ own k = 1 := fun k h e => by rw [h] at e; cases e
  refine ⟨Nat.le_trans h.hb ho.size, fun k hk => ?_, hd.mono (fun k hk => ?_), bk, bn, tv, h1.keep ho (n3 s h2), by rw [upd_lt h1.lt]; exact h2, by rw [upd_lt lk]; exact h3, by rw [upd_lt ln]; exact h4, h5, ?_, ?_, ?_⟩
  · by_cases hk2 : k < w.heap.size
    · rw [upd_lt hk2] at hk; exact h.lo k hk
    · have := h.hb; omega
  · by_cases hk2 : k < w.heap.size
    · rw [upd_lt hk2]
      rcases hk with hk | hk
      · exact hk
      · omega
    · exact upd_ge (by omega)
  · exact (h6.mono (ok' := fun k => own k = 2 ∧ k < w.heap.size) (fun b hb h => ⟨h, hb⟩)).keep ho (fun b hb => n2 b hb.1) |>.mono (fun b _ hb => by rw [upd_lt hb.2]; exact hb.1)
  · exact (h7.mono (ok' := fun k => own k = 2 ∧ k < w.heap.size) (fun b hb h => ⟨h, hb⟩)).keep ho (fun b hb => n2 b hb.1) (n3 bk h3) |>.mono (fun b _ hb => by rw [upd_lt hb.2]; exact hb.1)
  · exact (h8.mono (ok' := fun k => own k = 2 ∧ k < w.heap.size) (fun b hb h => ⟨h, hb⟩)).keep ho (fun b hb => n2 b hb.1) (n3 bn h4) |>.mono (fun b _ hb => by rw [upd_lt hb.2]; exact hb.1)
theorem headD_get : ∀ (l : List Int) (h : 0 < l.length), l.headD 0 = l[0]
  | [], h => by cases h
  | a :: r, h => rfl
theorem wrap_id {x : Int} (h0 : 0 ≤ x) (h1 : x < 18446744073709551616) : IntKind.u64.wrap x = x := by rw [Pure.wrap_u64]; omega
theorem write_c {w : World} {own : Nat → Nat} {base g s n : Nat} {S : SV} (h : St w own base g s S) (hg : Dk.Good S.x n) (hlife : S.x.life = -1) (hpl : S.x.pend.length ≤ 1000000) (hn1 : 8 ≤ n) (hep : 0 ≤ S.epoch ∧ S.epoch < 18446744073709551616) (htb : ∀ t ∈ S.tabs, 0 ≤ t ∧ t < 4294967296) (p : Nat) (hp : p ≤ 1) :
    Calls Try.prog 50 #[.pointer (some ⟨s, 0, none⟩), .int .i64 (p : Int)] w fun e w' => e = .returned (.int .i64 0) ∧ (∃ own', (∀ k, k < w.heap.size → own' k = own k) ∧ St w' own' base g s { S with x := S.x.write (4 * p) (rootB S) }) ∧ Only w w' (fun k => own k = 1) := by
  have H0 := Lib.hid h
  obtain ⟨bk, bn, tv, hs, _, _, _, _, hrow, _, _⟩ := h.blk
  obtain ⟨At, ct, rfl, htl, hCt, _⟩ := hrow.reads
  have htlen := hrow.len
  have htli : (S.tabs.length : Int) ≤ 100000 := by omega
  have HS := Lib.hid hs
  have HT := Lib.hid hCt
  have c0 := hs.cell_at 0 _ rfl
  have c2 := hs.cell_at 2 _ rfl
  have c3 := hs.cell_at 3 _ rfl
  obtain ⟨l1, hl1⟩ : ∃ l1, l1 = leB S.epoch 8 := ⟨_, rfl⟩
  have L1 : Hid (PShadowCrashes.shadow_lay.f 20 [] S.epoch 8 = some l1) := Lib.hid (by rw [hl1]; exact lay_f 8 (by omega) [] S.epoch (by simp))
  have HG := Lib.hid hg
  have HLF := Lib.hid hlife
  have hpi : (p : Int) ≤ 1 := by omega
  have HEP := Lib.hid hep
  clear hs hCt hrow h hg hlife
  by_cases ht : 0 < S.tabs.length
  · obtain ⟨ad, rfl, e1⟩ := int_at HT.out 0 ht
    obtain ⟨fn, hfn⟩ : ∃ fn : Nat, S.tabs[0] = (fn : Int) := ⟨(S.tabs[0]).toNat, by have := (htb _ (List.getElem_mem ht)).1; omega⟩
    have hfl := (htb _ (List.getElem_mem ht)).2
    rw [hfn] at e1 hfl
    have hft : firstT S = (fn : Int) := by
      rw [← hfn]
      exact headD_get _ ht
    have HRB := Lib.hid (show leB S.epoch 8 ++ leB ((fn : Nat) : Int) 4 ++ leB (S.tabs.length : Int) 4 ++ leB 0 8 ++ leB S.epoch 8 = rootB S by unfold rootB; rw [hft])
    have hti : (0 : Int) < (S.tabs.length : Int) := by omega
    have ad0 : ad.add 0 = ad := by simp [Addr.add]
    rw [ad0] at e1
    clear hfn hft ad0
    have HL1 := Lib.hid hl1
    clear hl1
    go_enter Try.func50, Try.ntmps50
    go_wp2_with (first
      | (go_at_call 62; refine (lay_c (w0 := w) S.epoch 8 _ (Below.refl _ w) (Kd.R_nil _ _ _ _ _) L1.out).mono ?_; rintro e w1 ⟨A1, k1, rfl, r1, b1⟩; have R1 := Lib.hid r1; have B1 := Lib.hid b1; have HS1 := Lib.hid (HS.out.below b1 HS.out.lt); have e1' := (b1.cell (World.block_lt_of_cell? _ _ e1)).trans e1; clear r1 b1; clear c0 c2 c3; have c0 := HS1.out.cell_at 0 _ rfl; have c2 := HS1.out.cell_at 2 _ rfl; have c3 := HS1.out.cell_at 3 _ rfl)
      | fail)
    clear e1'
    have hl1 := HL1.out

    obtain ⟨l2, hl2⟩ : ∃ l2, l2 = l1 ++ leB ((fn : Nat) : Int) 4 := ⟨_, rfl⟩
    obtain ⟨l3, hl3⟩ : ∃ l3, l3 = l2 ++ leB (S.tabs.length : Int) 4 := ⟨_, rfl⟩
    obtain ⟨l4, hl4⟩ : ∃ l4, l4 = l3 ++ leB 0 8 := ⟨_, rfl⟩
    obtain ⟨l5, hl5⟩ : ∃ l5, l5 = l4 ++ leB S.epoch 8 := ⟨_, rfl⟩
    have n1 : l1.length = 8 := by rw [hl1]; simp [leB_len]
    have n2 : l2.length = 12 := by rw [hl2]; simp [leB_len]; omega
    have n3 : l3.length = 16 := by rw [hl3]; simp [leB_len]; omega
    have n4 : l4.length = 24 := by rw [hl4]; simp [leB_len]; omega
    have L2 : Hid (PShadowCrashes.shadow_lay.f 20 l1 (IntKind.u64.wrap ((fn : Nat) : Int)) 4 = some l2) := Lib.hid (by rw [wrap_id (by omega) (by omega), hl2]; exact lay_f 4 (by omega) l1 _ (by omega))
    have L3 : Hid (PShadowCrashes.shadow_lay.f 20 l2 (IntKind.u64.wrap (S.tabs.length : Int)) 4 = some l3) := Lib.hid (by rw [wrap_id (by omega) (by omega), hl3]; exact lay_f 4 (by omega) l2 _ (by omega))
    have L4 : Hid (PShadowCrashes.shadow_lay.f 20 l3 0 8 = some l4) := Lib.hid (by rw [hl4]; exact lay_f 8 (by omega) l3 _ (by omega))
    have L5 : Hid (PShadowCrashes.shadow_lay.f 20 l4 S.epoch 8 = some l5) := Lib.hid (by rw [hl5]; exact lay_f 8 (by omega) l4 _ (by omega))
    have HRB2 : Hid (l5 = rootB S) := Lib.hid (by rw [hl5, hl4, hl3, hl2, hl1]; exact HRB.out)
    clear hl1 hl2 hl3 hl4 hl5 n1 n2 n3 n4
    have HSd := Lib.hid (HS1.out.drew)
    have CS : Hid (∀ W, Blk W s 76 [.pointer (some ⟨g, 0, none⟩), .int .i64 S.root, .int .u64 S.epoch, .slice (some ad) S.tabs.length ct, .map (some bk), .map (some bn), .bool false] → (W.cell? ⟨s, 3, none⟩ = some (.slice (some ad) S.tabs.length ct) ∧ W.cell? ⟨s, 2, none⟩ = some (.int .u64 S.epoch))) := Lib.hid fun W h => ⟨h.cell_at 3 _ rfl, h.cell_at 2 _ rfl⟩
    go_region_held3 (fun w' => w'.cell? ⟨s, 3, none⟩ = some (.slice (some ad) S.tabs.length ct) ∧ w'.cell? ⟨s, 2, none⟩ = some (.int .u64 S.epoch)) (exact CS.out _ (by first | exact HSd.out | exact HS2.out | exact HS3.out | exact HS4.out | exact HS5.out)) (first
      | (go_at_call 62; refine (lay_c (w0 := w) (IntKind.u64.wrap ((fn : Nat) : Int)) 4 _ (B1.out.drew) (R_dr R1.out) L2.out).mono ?_; rintro e w2 ⟨A2, k2, rfl, r2, b2⟩; clear R1; have R2 := Lib.hid r2; have B2 := Lib.hid b2; have HS2 := Lib.hid (HS.out.below b2 HS.out.lt); clear r2 b2)
      | (go_at_call 62; refine (lay_c (w0 := w) (IntKind.u64.wrap (S.tabs.length : Int)) 4 _ B2.out R2.out L3.out).mono ?_; rintro e w3 ⟨A3, k3, rfl, r3, b3⟩; clear R2; have R3 := Lib.hid r3; have B3 := Lib.hid b3; have HS3 := Lib.hid (HS.out.below b3 HS.out.lt); clear r3 b3)
      | (go_at_call 62; refine (lay_c (w0 := w) 0 8 _ B3.out R3.out L4.out).mono ?_; rintro e w4 ⟨A4, k4, rfl, r4, b4⟩; clear R3; have R4 := Lib.hid r4; have B4 := Lib.hid b4; have HS4 := Lib.hid (HS.out.below b4 HS.out.lt); clear r4 b4)
      | (go_at_call 62; refine (lay_c (w0 := w) S.epoch 8 _ B4.out R4.out L5.out).mono ?_; rintro e w5 ⟨A5, k5, rfl, r5, b5⟩; clear R4; have R5 := Lib.hid r5; have B5 := Lib.hid b5; have HS5 := Lib.hid (HS.out.below b5 HS.out.lt); clear r5 b5)
      | fail)
    all_goals
      have R6 := R5.out
      have n5 : l5.length = 32 := by rw [HRB2.out, rootB_len]
      rw [n5] at R6 ⊢
      have hSt := H0.out.below B5.out 2
      have C5 := (Kd.R_reads' R6).2.2
      rw [n5] at C5
      obtain ⟨gv, cv, junk, ev, q1, q2, q3, q4, q5, q6⟩ := R_open R6 (by rw [n5]; decide)
      injection ev with e1 e2 e3
      subst e1
      have hown : ¬ upd own w.heap.size 2 gv = 1 := by rw [upd_ge (by omega)]; decide
      have WR := Lib.hid (dk_writeS' hSt.disk HG.out hSt.hb (by omega) (by rw [HLF.out]; decide) (4 * (p : Int)) (by omega) (by omega) gv 0 k5 l5 C5 q6.lt hown)
      have SS := Lib.hid hSt
      have c0' := HS5.out.cell_at 0 _ rfl
      clear e2 e3 q1 q2 q3 q4 q5 q6 c0 c2 c3 CS hSt C5 hown R5 R6 n5
      go_wp2_with (first
        | (go_at_call 48; refine WR.out.mono ?_; rintro e w6 ⟨rfl, d6, o6⟩; have D6 := Lib.hid d6; have O6 := Lib.hid o6; clear d6 o6)
        | fail)
      go_ret
      have e4 : (4 * (p : Int)).toNat = 4 * p := by omega
      have hd := D6.out
      rw [e4, HRB2.out] at hd
      refine ⟨rfl, ⟨_, fun k hk => ?_, SS.out.disk_step hd O6.out⟩, (Only.of_below B5.out (fun k => own k = 1)).step O6.out (fun k hk h => by rw [upd_lt hk] at h; exact h)⟩
      have hkk := B5.out.size
      rw [upd_lt (by omega), upd_lt hk]
  · have ht0 : S.tabs = [] := List.length_eq_zero_iff.1 (by omega)
    have hl0 : S.tabs.length = 0 := by omega
    have HRB := Lib.hid (show leB S.epoch 8 ++ leB 0 4 ++ leB 0 4 ++ leB 0 8 ++ leB S.epoch 8 = rootB S by unfold rootB firstT; rw [ht0]; rfl)
    rw [hl0] at HS c3
    clear htl htlen htli HT ht ht0 hl0
    have HL1 := Lib.hid hl1
    clear hl1
    go_enter Try.func50, Try.ntmps50
    go_wp2_with (first
      | (go_at_call 62; refine (lay_c (w0 := w) S.epoch 8 _ (Below.refl _ w) (Kd.R_nil _ _ _ _ _) L1.out).mono ?_; rintro e w1 ⟨A1, k1, rfl, r1, b1⟩; have R1 := Lib.hid r1; have B1 := Lib.hid b1; have HS1 := Lib.hid (HS.out.below b1 HS.out.lt); clear r1 b1; clear c0 c2 c3; have c0 := HS1.out.cell_at 0 _ rfl; have c2 := HS1.out.cell_at 2 _ rfl; have c3 := HS1.out.cell_at 3 _ rfl)
      | fail)
    have hl1 := HL1.out

    obtain ⟨l2, hl2⟩ : ∃ l2, l2 = l1 ++ leB 0 4 := ⟨_, rfl⟩
    obtain ⟨l3, hl3⟩ : ∃ l3, l3 = l2 ++ leB 0 4 := ⟨_, rfl⟩
    obtain ⟨l4, hl4⟩ : ∃ l4, l4 = l3 ++ leB 0 8 := ⟨_, rfl⟩
    obtain ⟨l5, hl5⟩ : ∃ l5, l5 = l4 ++ leB S.epoch 8 := ⟨_, rfl⟩
    have n1 : l1.length = 8 := by rw [hl1]; simp [leB_len]
    have n2 : l2.length = 12 := by rw [hl2]; simp [leB_len]; omega
    have n3 : l3.length = 16 := by rw [hl3]; simp [leB_len]; omega
    have n4 : l4.length = 24 := by rw [hl4]; simp [leB_len]; omega
    have L2 : Hid (PShadowCrashes.shadow_lay.f 20 l1 (IntKind.u64.wrap 0) 4 = some l2) := Lib.hid (by rw [wrap_id (by omega) (by omega), hl2]; exact lay_f 4 (by omega) l1 _ (by omega))
    have L3 : Hid (PShadowCrashes.shadow_lay.f 20 l2 (IntKind.u64.wrap 0) 4 = some l3) := Lib.hid (by rw [wrap_id (by omega) (by omega), hl3]; exact lay_f 4 (by omega) l2 _ (by omega))
    have L4 : Hid (PShadowCrashes.shadow_lay.f 20 l3 0 8 = some l4) := Lib.hid (by rw [hl4]; exact lay_f 8 (by omega) l3 _ (by omega))
    have L5 : Hid (PShadowCrashes.shadow_lay.f 20 l4 S.epoch 8 = some l5) := Lib.hid (by rw [hl5]; exact lay_f 8 (by omega) l4 _ (by omega))
    have HRB2 : Hid (l5 = rootB S) := Lib.hid (by rw [hl5, hl4, hl3, hl2, hl1]; exact HRB.out)
    clear hl1 hl2 hl3 hl4 hl5 n1 n2 n3 n4
    have HSd := Lib.hid (HS1.out.drew)
    have CS : Hid (∀ W, Blk W s 76 [.pointer (some ⟨g, 0, none⟩), .int .i64 S.root, .int .u64 S.epoch, .slice At 0 ct, .map (some bk), .map (some bn), .bool false] → (W.cell? ⟨s, 3, none⟩ = some (.slice At 0 ct) ∧ W.cell? ⟨s, 2, none⟩ = some (.int .u64 S.epoch))) := Lib.hid fun W h => ⟨h.cell_at 3 _ rfl, h.cell_at 2 _ rfl⟩
    go_region_held3 (fun w' => w'.cell? ⟨s, 3, none⟩ = some (.slice At 0 ct) ∧ w'.cell? ⟨s, 2, none⟩ = some (.int .u64 S.epoch)) (exact CS.out _ (by first | exact HSd.out | exact HS2.out | exact HS3.out | exact HS4.out | exact HS5.out)) (first
      | (go_at_call 62; refine (lay_c (w0 := w) (IntKind.u64.wrap 0) 4 _ (B1.out.drew) (R_dr R1.out) L2.out).mono ?_; rintro e w2 ⟨A2, k2, rfl, r2, b2⟩; clear R1; have R2 := Lib.hid r2; have B2 := Lib.hid b2; have HS2 := Lib.hid (HS.out.below b2 HS.out.lt); clear r2 b2)
      | (go_at_call 62; refine (lay_c (w0 := w) (IntKind.u64.wrap 0) 4 _ B2.out R2.out L3.out).mono ?_; rintro e w3 ⟨A3, k3, rfl, r3, b3⟩; clear R2; have R3 := Lib.hid r3; have B3 := Lib.hid b3; have HS3 := Lib.hid (HS.out.below b3 HS.out.lt); clear r3 b3)
      | (go_at_call 62; refine (lay_c (w0 := w) 0 8 _ B3.out R3.out L4.out).mono ?_; rintro e w4 ⟨A4, k4, rfl, r4, b4⟩; clear R3; have R4 := Lib.hid r4; have B4 := Lib.hid b4; have HS4 := Lib.hid (HS.out.below b4 HS.out.lt); clear r4 b4)
      | (go_at_call 62; refine (lay_c (w0 := w) S.epoch 8 _ B4.out R4.out L5.out).mono ?_; rintro e w5 ⟨A5, k5, rfl, r5, b5⟩; clear R4; have R5 := Lib.hid r5; have B5 := Lib.hid b5; have HS5 := Lib.hid (HS.out.below b5 HS.out.lt); clear r5 b5)
      | fail)
    all_goals
      have R6 := R5.out
      have n5 : l5.length = 32 := by rw [HRB2.out, rootB_len]
      rw [n5] at R6 ⊢
      have hSt := H0.out.below B5.out 2
      have C5 := (Kd.R_reads' R6).2.2
      rw [n5] at C5
      obtain ⟨gv, cv, junk, ev, q1, q2, q3, q4, q5, q6⟩ := R_open R6 (by rw [n5]; decide)
      injection ev with e1 e2 e3
      subst e1
      have hown : ¬ upd own w.heap.size 2 gv = 1 := by rw [upd_ge (by omega)]; decide
      have WR := Lib.hid (dk_writeS' hSt.disk HG.out hSt.hb (by omega) (by rw [HLF.out]; decide) (4 * (p : Int)) (by omega) (by omega) gv 0 k5 l5 C5 q6.lt hown)
      have SS := Lib.hid hSt
      have c0' := HS5.out.cell_at 0 _ rfl
      clear e2 e3 q1 q2 q3 q4 q5 q6 c0 c2 c3 CS hSt C5 hown R5 R6 n5
      go_wp2_with (first
        | (go_at_call 48; refine WR.out.mono ?_; rintro e w6 ⟨rfl, d6, o6⟩; have D6 := Lib.hid d6; have O6 := Lib.hid o6; clear d6 o6)
        | fail)
      go_ret
      have e4 : (4 * (p : Int)).toNat = 4 * p := by omega
      have hd := D6.out
      rw [e4, HRB2.out] at hd
      refine ⟨rfl, ⟨_, fun k hk => ?_, SS.out.disk_step hd O6.out⟩, (Only.of_below B5.out (fun k => own k = 1)).step O6.out (fun k hk h => by rw [upd_lt hk] at h; exact h)⟩
      have hkk := B5.out.size
      rw [upd_lt (by omega), upd_lt hk]
end Go.Proofs.Ytochnokfcfmgnaa.St
end

section
/- Seat F: a commit, plain; the pages' and the tables' writes. -/
namespace Go.Proofs.Ytochnokfcfmgnaa.St
open Go Go.RowKit Go.Proofs.Ytochnokfcfmgnaa.Mem Go.Proofs.YtochnokfcfmgnaaW.PrintWords Go.Proofs.Ytochnokfcfmgnaa.Dk Go.Maps Go.ChangeMaps Go.Proofs.Ytochnokfcfmgnaa.Sh Go.Proofs.Ytochnokfcfmgnaa.Sp Go.Proofs.Ytochnokfcfmgnaa.Pg
set_option linter.unusedVariables false
set_option linter.unusedSimpArgs false
set_option maxRecDepth 100000
set_option maxHeartbeats 4000000
/-- A data page's id. -/
def idV (q : Nat) : Int := ((256 * q + 3 : Nat) : Int)
theorem id_f (q : Nat) (hq : q < 728) : PShadowCrashes.shadow_id.f (q : Int) = some (idV q) := by
  have key : ∀ q : Fin 728, PShadowCrashes.shadow_id.f ((q.val : Nat) : Int) = some (((256 * q.val + 3 : Nat)) : Int) := by decide +kernel
  exact key ⟨q, hq⟩
theorem idV_range {q : Nat} (hq : q < 728) : 0 ≤ idV q ∧ idV q < 4294967296 := by unfold idV; omega
theorem id_c (q : Nat) (hq : q < 728) (w : World) : Calls Try.prog 61 #[.int .i64 (q : Int)] w fun e w' => e = .returned (.int .u32 (idV q)) ∧ ∃ n, w' = w.drewN n := by
  refine (PShadowCrashes.shadow_id.calls (q : Int) (idV q) w (id_f q hq)).mono ?_
  rintro e w' ⟨h1, h2⟩
  exact ⟨h1, h2.out⟩
def dataOf (f : PM) (q : Nat) : List Int := match f q with | some p => p.2 | none => []
/-- The store behind k pages of data. -/
noncomputable def fw (S : SV) (data : List Int) : Nat → SV
  | 0 => S
  | k + 1 => { fw S data k with x := pgN (fw S data k).x (data.getD k 0).toNat (Hand.packed (idV ((freshN S.now).getD k 0)) (dataOf (fw S data k).now ((freshN S.now).getD k 0))) 4, now := fun j => if j = (freshN S.now).getD k 0 then some ((data.getD k 0).toNat, dataOf (fw S data k).now ((freshN S.now).getD k 0)) else (fw S data k).now j }
/-- What a table page holds. -/
def tabPart (b tabs : List Int) (k : Nat) : List Int := leB (tabs.getD (k + 1) 0) 4 ++ (b.take ((k + 1) * 112)).drop (k * 112)
/-- .. and behind k pages of the table. -/
noncomputable def tw (T : SV) (b tabs : List Int) : Nat → SV
  | 0 => T
  | k + 1 => { tw T b tabs k with x := pgN (tw T b tabs k).x (tabs.getD k 0).toNat (Hand.packed 2 (tabPart b tabs k)) 4 }
/-- A store under way. -/
structure Cm (n : Nat) (S T : SV) (m : Nat) : Prop where
  good : Dk.Good T.x n
  life : T.x.life = -1
  pend : T.x.pend.length = m
  root : T.root = S.root
  ep : T.epoch = S.epoch
  tabs : T.tabs = S.tabs
  kept : T.kept = S.kept
  dat : ∀ j, (T.now j).map (·.2) = (S.now j).map (·.2)
theorem Cm.start {n : Nat} {S : SV} (h : Ok n S) : Cm n S S 0 := ⟨h.good, h.life, by rw [h.pend]; rfl, rfl, rfl, rfl, rfl, fun _ => rfl⟩
theorem packed_ok {id : Int} {d : List Int} (hid : 0 ≤ id ∧ id < 4294967296) (hd : ∀ y ∈ d, 0 ≤ y ∧ y < 256) (hl : d.length ≤ 116) : (Hand.packed id d).length = 128 ∧ ∀ y ∈ Hand.packed id d, 0 ≤ y ∧ y < 256 :=
  ⟨Go.Proofs.Ytochnokfcfmgnaa.Pp.packed_length id d hl, Go.Proofs.Ytochnokfcfmgnaa.Pp.packed_bytes id d hd⟩
theorem Cm.page {n m : Nat} {S T : SV} (h : Cm n S T m) {p : Nat} (hp : p < n / 4) {b : List Int} (hb : b.length = 128) (hbb : ∀ y ∈ b, 0 ≤ y ∧ y < 256) : Cm n S { T with x := pgN T.x p b 4 } (m + 4) := by
  have := pgN_ok h.good h.life hp hb hbb 4 (Nat.le_refl _)
  exact ⟨this.good, this.life, by rw [this.plen, h.pend], h.root, h.ep, h.tabs, h.kept, h.dat⟩
theorem Cm.now_ {n m : Nat} {S T : SV} (h : Cm n S T m) (q a : Nat) (hq : ∃ p, T.now q = some p) : Cm n S { T with now := fun j => if j = q then some (a, dataOf T.now q) else T.now j } m := by
  refine ⟨h.good, h.life, h.pend, h.root, h.ep, h.tabs, h.kept, fun j => ?_⟩
  show (if j = q then some (a, dataOf T.now q) else T.now j).map (·.2) = (S.now j).map (·.2)
  by_cases e : j = q
  · subst e
    rw [if_pos rfl, ← h.dat j]
    obtain ⟨p, hp⟩ := hq
    unfold dataOf
    rw [hp]
    rfl
  · rw [if_neg e]; exact h.dat j
theorem Cm.at_ {n m : Nat} {S T : SV} (h : Cm n S T m) (hO : Ok n S) {q : Nat} (hq : q ∈ freshN S.now) : q < 728 ∧ ∃ p, T.now q = some p ∧ dataOf T.now q = p.2 ∧ p.2.length ≤ 116 ∧ ∀ y ∈ p.2, 0 ≤ y ∧ y < 256 := by
  obtain ⟨h1, h2⟩ := List.mem_filter.1 hq
  obtain ⟨h3, h4⟩ := mem_keysN.1 h1
  obtain ⟨p0, h5⟩ := Option.isSome_iff_exists.1 h4
  have h6 := h.dat q
  rw [h5] at h6
  cases h7 : T.now q with
  | none => rw [h7] at h6; cases h6
  | some p =>
    rw [h7] at h6
    injection h6 with h6
    have h6 : p.2 = p0.2 := h6
    have h8 := hO.now q p0 h5
    exact ⟨h3, p, rfl, by unfold dataOf; rw [h7], by rw [h6]; exact h8.2.2.1, by rw [h6]; exact h8.2.2.2⟩
theorem fw_ok {n : Nat} {S : SV} (hO : Ok n S) {data : List Int} (hd : ∀ p ∈ data, 2 ≤ p ∧ p < ((n / 4 : Nat) : Int)) : ∀ k, k ≤ data.length → k ≤ (freshN S.now).length → Cm n S (fw S data k) (4 * k)
  | 0, _, _ => Cm.start hO
  | k + 1, h1, h2 => by
    have ih := fw_ok hO hd k (by omega) (by omega)
    have hmem : (freshN S.now).getD k 0 ∈ freshN S.now := by
      rw [List.getD_eq_getElem?_getD, List.getElem?_eq_getElem (by omega)]
      exact List.getElem_mem _
    have hdm : data.getD k 0 ∈ data := by
      rw [List.getD_eq_getElem?_getD, List.getElem?_eq_getElem (by omega)]
      exact List.getElem_mem _
    obtain ⟨q1, p, q2, q3, q4, q5⟩ := ih.at_ hO hmem
    obtain ⟨b1, b2⟩ := packed_ok (d := dataOf (fw S data k).now ((freshN S.now).getD k 0)) (idV_range q1) (by rw [q3]; exact q5) (by rw [q3]; exact q4)
    have hpl := hd _ hdm
    have h3 := (ih.now_ ((freshN S.now).getD k 0) (data.getD k 0).toNat ⟨p, q2⟩).page (p := (data.getD k 0).toNat) (by omega) b1 b2
    rw [show 4 * (k + 1) = 4 * k + 4 by omega]
    exact h3
theorem tabPart_ok (b tabs : List Int) (hb : ∀ y ∈ b, 0 ≤ y ∧ y < 256) (k : Nat) : (tabPart b tabs k).length ≤ 116 ∧ ∀ y ∈ tabPart b tabs k, 0 ≤ y ∧ y < 256 := by
  unfold tabPart
  refine ⟨?_, fun y hy => ?_⟩
  · rw [List.length_append, leB_len, List.length_drop, List.length_take]; omega
  · rcases List.mem_append.1 hy with h | h
    · exact leB_byte _ _ y h
    · exact hb y (List.mem_of_mem_take (List.mem_of_mem_drop h))
theorem tw_ok {n m : Nat} {S T : SV} (h : Cm n S T m) {b tabs : List Int} (hb : ∀ y ∈ b, 0 ≤ y ∧ y < 256) (ht : ∀ p ∈ tabs, 2 ≤ p ∧ p < ((n / 4 : Nat) : Int)) : ∀ k, k ≤ tabs.length → Cm n S (tw T b tabs k) (m + 4 * k)
  | 0, _ => h
  | k + 1, h1 => by
    have ih := tw_ok h hb ht k (by omega)
    have hdm : tabs.getD k 0 ∈ tabs := by
      rw [List.getD_eq_getElem?_getD, List.getElem?_eq_getElem (by omega)]
      exact List.getElem_mem _
    have hpl := ht _ hdm
    obtain ⟨c1, c2⟩ := tabPart_ok b tabs hb k
    obtain ⟨b1, b2⟩ := packed_ok (id := 2) (by omega) c2 c1
    rw [show m + 4 * (k + 1) = m + 4 * k + 4 by omega]
    exact ih.page (p := (tabs.getD k 0).toNat) (by omega) b1 b2
theorem tab_byte (f : PM) (pl : List Int) : ∀ y ∈ (tab f pl).1, 0 ≤ y ∧ y < 256 := by
  have key : ∀ (n : Nat) (ks : List Nat), ks.length = n → ∀ y ∈ (tabF f pl ks).1, 0 ≤ y ∧ y < 256 := by
    intro n
    induction n with
    | zero =>
      intro ks e y hy
      obtain rfl : ks = [] := List.length_eq_zero_iff.1 e
      cases hy
    | succ n ih =>
      intro ks e y hy
      obtain ⟨l, q, rfl⟩ : ∃ l q, ks = l ++ [q] := by
        have hne : ks ≠ [] := by intro h; rw [h] at e; cases e
        exact ⟨ks.dropLast, ks.getLast hne, (List.dropLast_concat_getLast hne).symm⟩
      rw [tabF_snoc] at hy
      unfold tabStep at hy
      have ih2 := ih l (by simpa using e) y
      cases hf : f q with
      | none => rw [hf] at hy; exact ih2 hy
      | some p =>
        rw [hf] at hy
        dsimp only at hy
        rcases List.mem_append.1 hy with h | h
        · rcases List.mem_append.1 h with h | h
          · exact ih2 h
          · exact enc_byte _ y h
        · exact enc_byte _ y h
  exact key _ _ rfl
/-- The store behind a commit. -/
noncomputable def cmV (S : SV) (data tabs : List Int) : SV :=
  let T := tw (fw S data (freshN S.now).length) (tab S.now data).1 tabs tabs.length
  let U : SV := { T with x := T.x.barrier, tabs := tabs, epoch := T.epoch + 1 }
  { U with x := (U.x.write (4 * (1 - U.root).toNat) (rootB U)).barrier, root := 1 - U.root, kept := U.now }
end Go.Proofs.Ytochnokfcfmgnaa.St
end
