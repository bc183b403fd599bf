/- Texts merged: a section each. -/
import Derived.WalkKit
import Derived.Deep.Draws
import Derived.Deep.QuietTactic
import Derived.BigQuiet
import Derived.WalkSpells
import Derived.Laws.CopyOwn
import Derived.Laws.Rows
import Derived.Deep.OwnRows
import Derived.Deep.AppendLies
import Derived.Maps.AppendAt
import Derived.Lib.Hide
import Derived.KernelRfl
import Derived.Deep.RegionHeld3
import Derived.Deep.LoopGhost
import Derived.Test.YtochnokfcfmgnaaMV
import Derived.Shelf.Lay
import Derived.Shelf.LaySoft
import Derived.Ground.SlgnProg
import Derived.Shelf.SlicesE.Clone
import Derived.Test.YtochnokfcfmgnaaProg
import Derived.WalkLawsBesides
import Derived.Deep.RegionLaw
section
/- Words for memory, shared by this seat's hand-made contracts: a block that is known whole; which blocks alone have turned. Plain theorems. -/
namespace Go.Proofs.Ytochnokfcfmgnaa.Mem
open Go.RowKit
set_option linter.unusedVariables false
set_option linter.unusedSimpArgs false

/-- A fact that the walk's simp doesn't look into. -/
structure Aside1 (p : Prop) : Prop where mk :: (out : p)

theorem block_of_add (a : Addr) (n : Nat) : (a.add n).block = a.block := by unfold Addr.add; split <;> rfl
theorem add_of_add (a : Addr) (i j : Nat) : (a.add i).add j = a.add (i + j) := by
  unfold Addr.add
  by_cases hi : i = 0 <;> by_cases hj : j = 0 <;> simp [hi, hj, Nat.add_assoc]
theorem add_flat (g o n : Nat) : (⟨g, o, none⟩ : Addr).add n = ⟨g, o + n, none⟩ := by
  unfold Addr.add
  by_cases h : n = 0 <;> simp [h]

/-- Block g is just the cells cs of element type t, none frozen. -/
def Blk (w : World) (g : Nat) (t : TypeId) (cs : List Value) : Prop := w.heap[g]? = some (.cells cs.toArray t (0, 0))
/-- The old blocks outside S are as they were; the streams, too. -/
structure Only (w w' : World) (S : Nat → Prop) : Prop where
  os : w'.os = w.os
  tape : w'.tape = w.tape
  output : w'.output = w.output
  size : w.heap.size ≤ w'.heap.size
  block : ∀ k, k < w.heap.size → ¬ S k → w'.heap[k]? = w.heap[k]?

section
variable {w w' w1 w2 : World} {S S' : Nat → Prop} {g o : Nat} {t : TypeId} {cs : List Value}
theorem Only.refl (w : World) (S : Nat → Prop) : Only w w S := ⟨rfl, rfl, rfl, Nat.le_refl _, fun _ _ _ => rfl⟩
theorem Only.trans (h : Only w w1 S) (k : Only w1 w2 S) : Only w w2 S :=
  ⟨k.os.trans h.os, k.tape.trans h.tape, k.output.trans h.output, Nat.le_trans h.size k.size, fun i hi hn => (k.block i (Nat.lt_of_lt_of_le hi h.size) hn).trans (h.block i hi hn)⟩
theorem Only.mono (h : Only w w1 S) (hs : ∀ k, k < w.heap.size → S k → S' k) : Only w w1 S' := ⟨h.os, h.tape, h.output, h.size, fun i hi hn => h.block i hi (fun hk => hn (hs i hi hk))⟩
/-- What turned in the second step is new, or may turn. -/
theorem Only.step (h : Only w w1 S) (k : Only w1 w2 S') (hs : ∀ k, k < w.heap.size → S' k → S k) : Only w w2 S :=
  ⟨k.os.trans h.os, k.tape.trans h.tape, k.output.trans h.output, Nat.le_trans h.size k.size, fun i hi hn => (k.block i (Nat.lt_of_lt_of_le hi h.size) (fun hk => hn (hs i hi hk))).trans (h.block i hi hn)⟩
theorem Only.drew (h : Only w w1 S) : Only w w1.drew S := ⟨h.os, h.tape, h.output, h.size, h.block⟩
theorem Only.drewN (h : Only w w1 S) (n : Nat) : Only w (w1.drewN n) S := ⟨h.os, h.tape, h.output, h.size, h.block⟩
theorem Only.alloc (h : Only w w1 S) (o : Obj) : Only w (w1.alloc o) S :=
  h.step (S' := fun _ => False) ⟨rfl, rfl, rfl, by simp, fun k hk _ => Below.heap_alloc _ _ _ hk⟩ (fun _ _ h => h.elim)
theorem Only.setCell (h : Only w w1 S) {p : Addr} (hp : p.block < w.heap.size → S p.block) (u : Value) : Only w (w1.setCell p u) S :=
  h.step (S' := fun k => k = p.block) ⟨rfl, rfl, rfl, by simp [World.setCell], fun k _ hn => Below.heap_setCell _ _ _ _ hn⟩ (fun k hk he => by subst he; exact hp hk)
theorem Only.of_below (h : Below w.heap.size w w1) (S : Nat → Prop) : Only w w1 S := ⟨h.os, h.tape, h.output, h.size, fun k hk _ => h.block k hk⟩
theorem Only.of_grown {row : Option Nat} (h : w.grownBy w1 row) : Only w w1 (fun k => some k = row) := ⟨h.os, h.tape, h.output, h.size, fun k hk hn => h.block k hk hn⟩
theorem Only.below (h : Only w w1 S) {B : Nat} (hB : B ≤ w.heap.size) (hs : ∀ k, k < B → ¬ S k) : Below B w w1 := ⟨h.os, h.tape, h.output, h.size, fun k hk => h.block k (by omega) (hs k hk)⟩
theorem Only.below_all (h : Only w w1 (fun _ => False)) : Below w.heap.size w w1 := h.below (Nat.le_refl _) (fun _ _ hk => hk)
theorem Only.cell (h : Only w w1 S) {p : Addr} (hp : p.block < w.heap.size) (hn : ¬ S p.block) : w1.cell? p = w.cell? p := World.cell?_of_block (w := w) (h.block p.block hp hn)
theorem Only.frozen (h : Only w w1 S) {p : Addr} (hp : p.block < w.heap.size) (hn : ¬ S p.block) : w1.frozen? p = w.frozen? p := World.frozen?_of_block (w := w) (h.block p.block hp hn)

theorem Blk.lt (h : Blk w g t cs) : g < w.heap.size := by
  rcases Nat.lt_or_ge g w.heap.size with hlt | hge
  · exact hlt
  · unfold Blk at h; rw [Array.getElem?_eq_none hge] at h; cases h
theorem Blk.cell (h : Blk w g t cs) (i : Nat) : w.cell? ⟨g, i, none⟩ = cs[i]? := by rw [cell_of_row w g i cs.toArray t (0, 0) h]; simp
theorem Blk.cell_at (h : Blk w g t cs) (i : Nat) (v : Value) (hv : cs[i]? = some v) : w.cell? ⟨g, i, none⟩ = some v := (h.cell i).trans hv
theorem Blk.frozen (h : Blk w g t cs) (i : Nat) : w.frozen? ⟨g, i, none⟩ = false := by
  unfold Blk at h
  simp [World.frozen?, h]
theorem Blk.new (w : World) (t : TypeId) (cs : List Value) : Blk (w.alloc (.cells cs.toArray t)) w.heap.size t cs := heap_alloc_new w _
theorem Blk.drewN (h : Blk w g t cs) (n : Nat) : Blk (w.drewN n) g t cs := h
theorem Blk.drew (h : Blk w g t cs) : Blk w.drew g t cs := h
theorem Blk.alloc (h : Blk w g t cs) (o : Obj) : Blk (w.alloc o) g t cs := (Below.heap_alloc w o g h.lt).trans h
theorem Blk.set_ (h : Blk w g t cs) (i : Nat) (u : Value) : Blk (w.setCell ⟨g, i, none⟩ u) g t (cs.set i u) := by
  unfold Blk at h ⊢
  simp [World.setCell, Array.getElem?_modify, h]
theorem Blk.far (h : Blk w g t cs) {p : Addr} (hp : g ≠ p.block) (u : Value) : Blk (w.setCell p u) g t cs := (Below.heap_setCell w p u g hp).trans h
theorem Blk.keep (h : Blk w g t cs) (ho : Only w w' S) (hn : ¬ S g) : Blk w' g t cs := (ho.block g h.lt hn).trans h
theorem Blk.below {B : Nat} (h : Blk w g t cs) (hb : Below B w w') (hg : g < B) : Blk w' g t cs := (hb.block g hg).trans h
theorem Blk.ne_ {g' : Nat} {t' : TypeId} {cs' : List Value} (h : Blk w g t cs) (h' : Blk w g' t' cs') (hne : t ≠ t') : g ≠ g' := by
  rintro rfl
  unfold Blk at h h'
  rw [h] at h'
  injection h' with h'
  injection h' with _ ht
  exact hne ht
theorem Blk.inj {t' : TypeId} {cs' : List Value} (h : Blk w g t cs) (h' : Blk w g t' cs') : cs = cs' := by
  unfold Blk at h h'
  rw [h] at h'
  injection h' with h'
  injection h' with h' _
  simpa using h'
end

/-- The cells of numbers. -/
def icells (k : IntKind) (xs : List Int) : List Value := xs.map (Value.int k)
theorem icells_length (k : IntKind) (xs : List Int) : (icells k xs).length = xs.length := by simp [icells]
theorem icells_get (k : IntKind) (xs : List Int) (i : Nat) (h : i < xs.length) : (icells k xs)[i]? = some (.int k xs[i]) := by simp [icells, h]
theorem icells_getD (k : IntKind) (xs : List Int) (i : Nat) (h : i < xs.length) : (icells k xs)[i]? = some (.int k (xs.getD i 0)) := by simp [icells, h]
theorem icells_set (k : IntKind) (xs : List Int) (i : Nat) (v : Int) : (icells k xs).set i (.int k v) = icells k (xs.set i v) := by simp [icells, List.map_set]
theorem icells_one (k : IntKind) (xs : List Int) : ∀ u ∈ icells k xs, u.oneCell' = true := by
  intro u hu
  obtain ⟨x, _, rfl⟩ := List.mem_map.1 hu
  rfl
theorem icells_splice (k : IntKind) (xs : List Int) (o : Nat) (ys : List Int) : splice (icells k xs) o (icells k ys) = icells k (splice xs o ys) := by simp [icells, splice, List.map_take, List.map_drop]
end Go.Proofs.Ytochnokfcfmgnaa.Mem
end

section
/- Words for the disk: a copy that turns one block alone; a row of numbers of one's own, opened and shut; what a disk is in memory. -/
namespace Go.Proofs.Ytochnokfcfmgnaa.Mem
open Go.RowKit Go.Proofs.YtochnokfcfmgnaaW.PrintWords
set_option linter.unusedVariables false
set_option linter.unusedSimpArgs false

/-- The whole row is turned: no other block. -/
theorem Only.setRow (w : World) (g : Nat) (cs : Array Value) : Only w (w.setRow g cs) (fun k => k = g) :=
  ⟨rfl, rfl, rfl, by simp [World.setRow], fun k _ hk => setRow_other w g k cs hk⟩
/-- A copy into a row that is known whole: that block turns, and no other. -/
theorem copy_blk {P : Program} {w : World} {ops : Array Oper} {rest : List Oper} {o : Oper} {a : Act} {Q : Exit → Act → World → Prop} (hgd : o.guard = none) (d s : Operand) (dT sT : TypeId)
    (ho : o.op = .call { callee := .builtin .copy, args := #[d, s], argTypes := #[dT, sT] }) (elem : TypeId) (hu : P.underlying dT = some (.slice elem)) (hsz : (P.info? elem).map (·.size) = some 1)
    (dp sp : Option Addr) (dLen dCap sLen sCap : Nat) (hd : a.eval d = .slice dp dLen dCap) (hs : a.eval s = .slice sp sLen sCap)
    (g off : Nat) (cur : List Value) (t : TypeId) (hg : Hid (Blk w g t cur)) (cs : List Value) (hn : cs.length = Nat.min sLen dLen)
    (hpos : 0 < cs.length → dp = some ⟨g, off, none⟩ ∧ ∃ ad, sp = some ad ∧ ∀ j v, cs[j]? = some v → w.cell? (ad.add j) = some v)
    (hfit : off + cs.length ≤ cur.length) (h1 : ∀ v ∈ cs, v.oneCell' = true)
    (h : ∀ w', Hid (Blk w' g t (splice cur off cs)) → Hid (Only w w' (fun k => k = g)) → wpList P ops Q rest (a.put o.dst (goInt cs.length)) w') :
    wpList P ops Q (o :: rest) a w := by
  have hg := hg.out
  by_cases h0 : cs.length = 0
  · obtain rfl : cs = [] := List.eq_nil_of_length_eq_zero h0
    refine wpList_copy_nothing hgd d s dT sT ho elem hu hsz dp sp dLen dCap sLen sCap hd hs (by simpa using hn.symm) ?_
    exact h w (Lib.hid (by simpa [splice] using hg)) (Lib.hid (Only.refl _ _))
  · obtain ⟨rfl, ad, rfl, hsrc⟩ := hpos (by omega)
    refine wpList_copy_own hgd d s dT sT ho elem hu hsz g off dLen dCap ad sLen sCap hd hs cur.toArray t hg cs hn hsrc (by simpa using hfit) h1 ?_
    exact h _ (Lib.hid (by unfold Blk; simpa [splice] using setRow_heap w g _ _ t _ hg)) (Lib.hid (Only.setRow _ _ _))

/-- The same as one step of a region that draws its order. -/
theorem step_copy_blk {P : Program} {ops : Array Oper} {o : Oper} {a : Act} {w : World} {K : Act → World → Prop} {Q : Exit → Act → World → Prop} {E : Prop} (hgd : o.guard = none) (d s : Operand) (dT sT : TypeId)
    (ho : o.op = .call { callee := .builtin .copy, args := #[d, s], argTypes := #[dT, sT] }) (elem : TypeId) (hu : P.underlying dT = some (.slice elem)) (hsz : (P.info? elem).map (·.size) = some 1)
    (dp sp : Option Addr) (dLen dCap sLen sCap : Nat) (hd : a.eval d = .slice dp dLen dCap) (hs : a.eval s = .slice sp sLen sCap)
    (g off : Nat) (cur : List Value) (t : TypeId) (hg : Hid (Blk w g t cur)) (cs : List Value) (hn : cs.length = Nat.min sLen dLen)
    (hpos : 0 < cs.length → dp = some ⟨g, off, none⟩ ∧ ∃ ad, sp = some ad ∧ ∀ j v, cs[j]? = some v → w.cell? (ad.add j) = some v)
    (hfit : off + cs.length ≤ cur.length) (h1 : ∀ v ∈ cs, v.oneCell' = true)
    (h : ∀ w', Hid (Blk w' g t (splice cur off cs)) → Hid (Only w w' (fun k => k = g)) → K (a.put o.dst (goInt cs.length)) w') :
    if Region.wanted o (yielded ops a.tmps) = true then Oper.wp P o a w K Q else E := by
  have hw : Region.wanted o (yielded ops a.tmps) = true := by simp [Region.wanted, hgd]
  have hg := hg.out
  rw [if_pos hw]
  by_cases h0 : cs.length = 0
  · obtain rfl : cs = [] := List.eq_nil_of_length_eq_zero h0
    have hrun := run_copy_none (P := P) w dT sT o.type elem dp sp dLen dCap sLen sCap hu hsz (by simpa using hn.symm)
    unfold Oper.wp
    simp [execOp, ho, resolve, invoke, builtin, hd, hs, hrun, Result.andThen]
    exact h w (Lib.hid (by simpa [splice] using hg)) (Lib.hid (Only.refl _ _))
  · obtain ⟨rfl, ad, rfl, hsrc⟩ := hpos (by omega)
    have hrun := run_copy_row (P := P) w dT sT o.type elem g off dLen dCap ad sLen sCap cur.toArray t cs hu hsz hg hn hsrc (by simpa using hfit) h1
    unfold Oper.wp
    simp [execOp, ho, resolve, invoke, builtin, hd, hs, hrun, Result.andThen]
    exact h _ (Lib.hid (by unfold Blk; simpa [splice] using setRow_heap w g _ _ t _ hg)) (Lib.hid (Only.setRow _ _ _))

/-- A row of numbers of one's own, opened: its block, whole: the numbers, and what lies behind them. -/
theorem R_open {w : World} {base : Nat} {ok : Nat → Prop} {k : IntKind} {t : TypeId} {v : Value} {xs : List Int} (h : (Kd.int k).R t w base ok v xs) (hp : 0 < xs.length) :
    ∃ g cap junk, v = .slice (some ⟨g, 0, none⟩) xs.length cap ∧ base ≤ g ∧ ok g ∧ xs.length ≤ cap ∧ cap ≤ maxLen ∧ xs.length + junk.length = cap ∧ Blk w g t (icells k xs ++ junk) := by
  have ho := Kd.own_of_R h
  rcases ho.2 with ⟨_, hn⟩ | ⟨g, cap, cur, rfl, hg, hh, hl, hm, hs, ht⟩
  · omega
  · refine ⟨g, cap, cur.toList.drop xs.length, rfl, hg, h.1 g (by simp [Value.ownBlock]), hl, hm, by simp; omega, ?_⟩
    have e : icells k xs ++ cur.toList.drop xs.length = cur.toList := by
      have e1 : icells k xs = cur.toList.take xs.length := by rw [Nat.mul_one] at ht; rw [ht]; rfl
      rw [e1, List.take_append_drop]
    unfold Blk
    rw [e]
    simpa using hh
theorem R_shut {w : World} {base g cap : Nat} {ok : Nat → Prop} {k : IntKind} {t : TypeId} {xs : List Int} {junk : List Value} (hb : Blk w g t (icells k xs ++ junk)) (hg : base ≤ g) (hok : ok g) (hl : xs.length + junk.length = cap) (hm : cap ≤ maxLen) :
    (Kd.int k).R t w base ok (.slice (some ⟨g, 0, none⟩) xs.length cap) xs := by
  refine Kd.R_of_own ⟨by simp [encs], .inr ⟨g, cap, (icells k xs ++ junk).toArray, rfl, hg, hb, by omega, hm, by simp [icells_length]; omega, by rw [Nat.mul_one]; simp [icells, encs]⟩⟩ (fun k hk => ?_)
  have : g = k := by simpa [Value.ownBlock] using hk
  subst this
  exact hok
theorem splice_all {α : Type} (a b c : List α) (h : c.length = a.length) : splice (a ++ b) 0 c = c ++ b := by
  unfold splice
  rw [List.take_zero, List.nil_append, Nat.zero_add, h, List.drop_left]
theorem splice_left {α : Type} (a b c : List α) (o : Nat) (h : o + c.length ≤ a.length) : splice (a ++ b) o c = splice a o c ++ b := by
  unfold splice
  rw [List.take_append_of_le_length (by omega), List.drop_append_of_le_length (by omega)]
  simp [List.append_assoc]
/-- The cells of a row, at a place. -/
theorem Blk.at_ {w : World} {g : Nat} {t : TypeId} {k : IntKind} {xs : List Int} {junk : List Value} (hb : Blk w g t (icells k xs ++ junk)) (o n : Nat) (h : o + n ≤ xs.length) : ∀ j v, (icells k ((xs.drop o).take n))[j]? = some v → w.cell? (Addr.add ⟨g, o, none⟩ j) = some v := by
  intro j v hv
  rw [add_flat]
  have hj : j < ((xs.drop o).take n).length := by
    have := (List.getElem?_eq_some_iff.1 hv).1
    simpa [icells] using this
  rw [List.length_take, List.length_drop] at hj
  refine hb.cell_at _ _ ?_
  rw [List.getElem?_append_left (by rw [icells_length]; omega)]
  simp only [icells, List.getElem?_map, List.getElem?_take, List.getElem?_drop] at hv ⊢
  rw [if_pos (by omega)] at hv
  exact hv
theorem C_cells {w : World} {A : Option Addr} {n : Nat} {k : IntKind} {xs : List Int} (h : (Kd.int k).C w A n xs) (hn : 0 < n) : ∃ ad, A = some ad ∧ ∀ j v, (icells k xs)[j]? = some v → w.cell? (ad.add j) = some v := by
  obtain ⟨ad, e, hc⟩ := h.2.2 hn
  refine ⟨ad, e, fun j v hv => ?_⟩
  simp only [icells, List.getElem?_map, Option.map_eq_some_iff] at hv
  obtain ⟨p, hp, rfl⟩ := hv
  obtain ⟨cs, hl, hk, hcell⟩ := hc j p hp
  have e2 : cs = [.int k p] := hk
  subst e2
  have := hcell 0 (.int k p) rfl
  rwa [show (Kd.int k).sz = 1 from rfl, show j * 1 + 0 = j by omega] at this
end Go.Proofs.Ytochnokfcfmgnaa.Mem

namespace Go.Proofs.Ytochnokfcfmgnaa.Dk
open Go.RowKit Go.Proofs.Ytochnokfcfmgnaa.Mem Go.Proofs.YtochnokfcfmgnaaW.PrintWords
set_option linter.unusedVariables false

/-- A write that is pending: its sector and its bytes. -/
abbrev Wr : Kd (Int × List Int) := Kd.pair (Kd.int .i64) (Kd.slice 5 (Kd.int .u8))
/-- What a disk holds. -/
structure DV where
  kept : List Int
  seen : List Int
  pend : List (Int × List Int)
  life : Int
/-- What every disk keeps. -/
structure Good (x : DV) (n : Nat) : Prop where
  n1 : 1 ≤ n
  n2 : n ≤ 8192
  kept : x.kept.length = n * 32
  seen : x.seen.length = n * 32
  bk : ∀ y ∈ x.kept, 0 ≤ y ∧ y < 256
  bs : ∀ y ∈ x.seen, 0 ≤ y ∧ y < 256
  pend : ∀ p ∈ x.pend, (0 ≤ p.1 ∧ p.1 < n) ∧ p.2.length = 32 ∧ ∀ y ∈ p.2, 0 ≤ y ∧ y < 256
  life : -1 ≤ x.life ∧ x.life ≤ 9223372036854775807
/-- A disk in memory: the struct at block g, two rows of bytes and the row of pending writes, all of them apart. -/
def IsDisk (w : World) (base : Nat) (ok : Nat → Prop) (g : Nat) (x : DV) : Prop := ∃ vk vs vp, ok g ∧ base ≤ g ∧
  Blk w g 93 [vk, vs, vp, .int .i64 x.life] ∧
  (Kd.int .u8).R 5 w base ok vk x.kept ∧
  (Kd.int .u8).R 5 w base (fun k => ok k ∧ some k ≠ vk.ownBlock) vs x.seen ∧
  Wr.R 98 w base (fun k => ok k ∧ some k ≠ vk.ownBlock ∧ some k ≠ vs.ownBlock) vp x.pend
section
variable {w w' : World} {base g : Nat} {ok ok' S : Nat → Prop} {x : DV}
theorem IsDisk.lt (h : IsDisk w base ok g x) : g < w.heap.size := by obtain ⟨vk, vs, vp, _, _, hb, _⟩ := h; exact hb.lt
theorem IsDisk.mono (h : IsDisk w base ok g x) (hok : ∀ k, ok k → ok' k) : IsDisk w base ok' g x := by
  obtain ⟨vk, vs, vp, h1, h2, hb, h3, h4, h5⟩ := h
  exact ⟨vk, vs, vp, hok _ h1, h2, hb, Kd.R_mono h3 hok, Kd.R_mono h4 (fun k hk => ⟨hok k hk.1, hk.2⟩), Kd.R_mono h5 (fun k hk => ⟨hok k hk.1, hk.2⟩)⟩
/-- What turns none of its blocks leaves a disk as it is. -/
theorem IsDisk.keep (h : IsDisk w base ok g x) (ho : Only w w' S) (hs : ∀ k, ok k → ¬ S k) : IsDisk w' base ok g x := by
  obtain ⟨vk, vs, vp, h1, h2, hb, h3, h4, h5⟩ := h
  exact ⟨vk, vs, vp, h1, h2, hb.keep ho (hs _ h1), Kd.R_step h3 (fun k hk hlt => ho.block k hlt (hs k hk)), Kd.R_step h4 (fun k hk hlt => ho.block k hlt (hs k hk.1)), Kd.R_step h5 (fun k hk hlt => ho.block k hlt (hs k hk.1))⟩
/-- Its blocks are there, and from base on. -/
theorem IsDisk.bound (h : IsDisk w base ok g x) : IsDisk w base (fun k => ok k ∧ base ≤ k ∧ k < w.heap.size) g x := by
  obtain ⟨vk, vs, vp, h1, h2, hb, h3, h4, h5⟩ := h
  refine ⟨vk, vs, vp, ⟨h1, h2, hb.lt⟩, h2, hb, Kd.R_mono (Kd.R_bound h3) (fun k hk => ⟨hk.1, hk.2.1, hk.2.2.1⟩), Kd.R_mono (Kd.R_bound h4) (fun k hk => ⟨⟨hk.1.1, hk.2.1, hk.2.2.1⟩, hk.1.2⟩), Kd.R_mono (Kd.R_bound h5) (fun k hk => ⟨⟨hk.1.1, hk.2.1, hk.2.2.1⟩, hk.1.2⟩)⟩
end
end Go.Proofs.Ytochnokfcfmgnaa.Dk
end

section
/- slices.Clone of bytes, off the shelf. -/
namespace Go.Proofs
open Go.Shelf
shelf_lay_g SlLaysE0.n41 Slgn 41 at Try 33 as Try.laysClone
end Go.Proofs
namespace Go.Proofs.Ytochnokfcfmgnaa.Dk
open Go.RowKit Go.Proofs.Ytochnokfcfmgnaa.Mem Go.Proofs.YtochnokfcfmgnaaW.PrintWords
set_option linter.unusedVariables false
theorem info5 : (Try.prog.info? 5).map (fun i => (i.zero, i.size, i.bytes)) = some (some (.int .u8 0), 1, 1) := by kernel_rfl
theorem clone_any (b off : Nat) (n c : Nat) (xs : List Int) (w : World) (hl : xs.length = n) (hn : n ≤ 140737488351232) (hc : ∀ j v, (icells .u8 xs)[j]? = some v → w.cell? (Addr.add ⟨b, off, none⟩ j) = some v) :
    Calls Try.prog 33 #[.slice (some ⟨b, off, none⟩) n c] w fun e w' => ∃ v, e = .returned v ∧ (Kd.int .u8).R 5 w' w.heap.size (fun _ => True) v xs ∧ Below w.heap.size w w' := by
  obtain ⟨i0, hi, hz0, hz1, hz2⟩ := info_parts info5
  refine (AnyE.slices_Clone Try.laysClone i0 (.int .u8 0) 1 1 hi hz0 hz1 hz2 rfl (by omega) (fun w => by kernel_rfl) b off n c (icells .u8 xs) w (by rw [icells_length]; omega) (by unfold maxLen; omega) (by omega) (fun j u hu => ?_) (icells_one _ _)).mono ?_
  · have := hc j u hu
    rwa [add_flat] at this
  · rintro e w' ⟨v, rfl, ho, _, hb⟩
    subst hl
    exact ⟨v, rfl, Kd.R_of_own ho (fun _ _ => trivial), hb⟩
end Go.Proofs.Ytochnokfcfmgnaa.Dk
end

section
/- The contracts of the disk's small functions. -/
namespace Go.Proofs.Ytochnokfcfmgnaa.Dk
open Go.RowKit Go.Proofs.Ytochnokfcfmgnaa.Mem Go.Proofs.YtochnokfcfmgnaaW.PrintWords
set_option linter.unusedVariables false
set_option linter.unusedSimpArgs false

theorem len_cells (a : Nat) (n c : Nat) (A : Option Addr) (w : World) (h : w.cell? ⟨a, 1, none⟩ = some (.slice A n c)) (hn : n ≤ 1000000) :
    Calls Try.prog 25 #[.pointer (some ⟨a, 0, none⟩)] w fun e w' => e = .returned (.int .i64 (n / 32 : Nat)) ∧ w = w' := by
  go_enter Try.func25, Try.ntmps25
  go_wp2
  go_ret
  exact ⟨by simp, rfl⟩
/-- The errors of an access. -/
def chk (life s n : Int) : Int := if life = 0 then 3 else if s < 0 ∨ s ≥ n then 4 else 0
theorem check_cells (a : Nat) (n c : Nat) (A : Option Addr) (life s : Int) (w : World) (h1 : w.cell? ⟨a, 1, none⟩ = some (.slice A n c)) (h3 : w.cell? ⟨a, 3, none⟩ = some (.int .i64 life)) (hn : n ≤ 1000000) :
    Calls Try.prog 63 #[.pointer (some ⟨a, 0, none⟩), .int .i64 s] w fun e w' => e = .returned (.int .i64 (chk life s (n / 32 : Nat))) ∧ w = w' := by
  by_cases c1 : life = 0
  · subst c1
    go_enter Try.func63, Try.ntmps63
    go_wp2
    go_ret
    exact ⟨rfl, rfl⟩
  · have b1 : (life == 0) = false := by simpa using c1
    by_cases c2 : s < 0
    · have hf : chk life s (n / 32 : Nat) = 4 := by unfold chk; rw [if_neg c1, if_pos (.inl c2)]
      rw [hf]
      clear hf c1
      go_enter Try.func63, Try.ntmps63
      go_wp2
      go_ret
      exact ⟨rfl, rfl⟩
    · have hf : chk life s (n / 32 : Nat) = if s < (n / 32 : Nat) then 0 else 4 := by unfold chk; rw [if_neg c1]; split <;> split <;> omega
      rw [hf]
      clear hf c1
      by_cases c3 : s < (n / 32 : Nat)
      · rw [if_pos c3]
        go_enter Try.func63, Try.ntmps63
        go_wp2_with (go_at_call 25; refine (len_cells a n c A _ h1 hn).mono ?_; rintro e w' ⟨rfl, rfl⟩)
        go_ret
        exact ⟨rfl, rfl⟩
      · rw [if_neg c3]
        go_enter Try.func63, Try.ntmps63
        go_wp2_with (go_at_call 25; refine (len_cells a n c A _ h1 hn).mono ?_; rintro e w' ⟨rfl, rfl⟩)
        go_ret
        exact ⟨rfl, rfl⟩
/-- What is left of a life. -/
def spent (life : Int) : Int := if 0 < life then life - 1 else life
theorem spend_cells (a : Nat) (life : Int) (w : World) (h3 : w.cell? ⟨a, 3, none⟩ = some (.int .i64 life)) (hf : w.frozen? ⟨a, 3, none⟩ = false) (hl : -1 ≤ life) (hl2 : life ≤ 9223372036854775807) :
    Calls Try.prog 69 #[.pointer (some ⟨a, 0, none⟩)] w fun e w' => e = .returned (.tuple #[]) ∧ w' = if 0 < life then w.setCell ⟨a, 3, none⟩ (.int .i64 (life - 1)) else w := by
  by_cases c : 0 < life
  · rw [if_pos c]
    go_enter Try.func69, Try.ntmps69
    go_wp2
    go_end0
    exact ⟨rfl, rfl⟩
  · rw [if_neg c]
    go_enter Try.func69, Try.ntmps69
    go_wp2
    go_end0
    exact ⟨rfl, rfl⟩
theorem sector_cells (b n c : Nat) (s : Nat) (w : World) (hs : (s + 1) * 32 ≤ n) (hn : n ≤ 1000000) (hc : n ≤ c) :
    Calls Try.prog 51 #[.slice (some ⟨b, 0, none⟩) n c, .int .i64 (s : Int)] w fun e w' => e = .returned (.slice (some ⟨b, s * 32, none⟩) 32 (c - s * 32)) ∧ w = w' := by
  go_enter Try.func51, Try.ntmps51
  go_wp2
  go_ret
  exact ⟨by rw [show (s + 1) * 32 - s * 32 = 32 by omega]; rfl, rfl⟩

/-- The bytes of a sector. -/
def sec (b : List Int) (s : Int) : List Int := (b.drop (s.toNat * 32)).take 32
theorem sec_length (b : List Int) (n : Nat) (s : Int) (h : b.length = n * 32) (h0 : 0 ≤ s) (h1 : s < n) : (sec b s).length = 32 := by
  unfold sec
  rw [List.length_take, List.length_drop]
  omega
theorem chk_zero {life s n : Int} (h : chk life s n = 0) : life ≠ 0 ∧ 0 ≤ s ∧ s < n := by
  unfold chk at h
  split at h
  · cases h
  · split at h
    · cases h
    · omega
set_option maxHeartbeats 1000000 in
theorem read_cells (g gs cap n : Nat) (life s : Int) (seen : List Int) (junk : List Value) (vk vp : Value) (w : World) (hD : Hid (Blk w g 93 [vk, .slice (some ⟨gs, 0, none⟩) seen.length cap, vp, .int .i64 life])) (hS : Hid (Blk w gs 5 (icells .u8 seen ++ junk))) (hl : seen.length = n * 32) (hn : n ≤ 8192) (hc : seen.length ≤ cap) :
    Calls Try.prog 44 #[.pointer (some ⟨g, 0, none⟩), .int .i64 s] w fun e w' => ∃ v, e = .returned (.tuple #[v, .int .i64 (chk life s n)]) ∧ (Kd.int .u8).R 5 w' w.heap.size (fun _ => True) v (if chk life s n = 0 then sec seen s else []) ∧ Below w.heap.size w w' := by
  have h1 := hD.out.cell_at 1 _ rfl
  have h3 := hD.out.cell_at 3 _ rfl
  have hck : Calls Try.prog 63 #[.pointer (some ⟨g, 0, none⟩), .int .i64 s] w fun e w' => e = .returned (.int .i64 (chk life s n)) ∧ w = w' := by
    have := check_cells g seen.length cap _ life s w h1 h3 (by omega)
    rwa [show seen.length / 32 = n by omega] at this
  have HC := Lib.hid hck
  have HL := Lib.hid hl
  clear h3 hck hl
  generalize hx : chk life s n = x at *
  by_cases c : x = 0
  · subst c
    obtain ⟨q1, q2, q3⟩ := chk_zero hx
    obtain ⟨m, rfl⟩ := Int.eq_ofNat_of_zero_le q2
    have q4 : m < n := by omega
    have HX := Lib.hid hx
    clear hx q1 q2 q3
    rw [if_pos rfl]
    go_enter Try.func44, Try.ntmps44
    go_wp2_with (first
      | (go_at_call 63; refine HC.out.mono ?_; rintro e w' ⟨rfl, rfl⟩)
      | (go_at_call 51; refine (sector_cells gs seen.length cap m w (by rw [HL.out]; omega) (by rw [HL.out]; omega) hc).mono ?_; rintro e w' ⟨rfl, rfl⟩)
      | (go_at_call 33; refine (clone_any gs (m * 32) 32 _ (sec seen m) w (sec_length seen n m HL.out (by omega) (by omega)) (by omega) (fun j v hv => hS.out.at_ (m * 32) 32 (by rw [HL.out]; omega) j v hv)).mono ?_; rintro e w' ⟨v, rfl, hr, hb⟩; have HR := Lib.hid hr; have HB := Lib.hid hb; clear hr hb))
    go_ret2
    exact ⟨_, rfl, HR.out, HB.out⟩
  · have b1 : (x == 0) = false := by simpa using c
    have b2 : (x != 0) = true := by simpa using c
    rw [if_neg c]
    clear hx c
    go_enter Try.func44, Try.ntmps44
    go_wp2_with (go_at_call 63; refine HC.out.mono ?_; rintro e w' ⟨rfl, rfl⟩)
    go_ret2
    exact ⟨_, rfl, Kd.R_nil _ _ _ _ _, Below.refl _ _⟩
end Go.Proofs.Ytochnokfcfmgnaa.Dk
end

section
/- The contract of Write. -/
namespace Go.Proofs.Ytochnokfcfmgnaa.Dk
open Go.RowKit Go.Proofs.Ytochnokfcfmgnaa.Mem Go.Proofs.YtochnokfcfmgnaaW.PrintWords
set_option linter.unusedVariables false
set_option linter.unusedSimpArgs false
theorem info70 : (Try.prog.info? 98).map (fun i => (i.zero, i.size, i.bytes)) = some (some (.agg #[.int .i64 0, .slice none 0 0]), 2, 32) := by kernel_rfl
theorem spend_disk (g : Nat) (a b c : Value) (life : Int) (w : World) (hD : Blk w g 93 [a, b, c, .int .i64 life]) (hl : -1 ≤ life) (hl2 : life ≤ 9223372036854775807) :
    Calls Try.prog 69 #[.pointer (some ⟨g, 0, none⟩)] w fun e w' => e = .returned (.tuple #[]) ∧ Blk w' g 93 [a, b, c, .int .i64 (spent life)] ∧ Only w w' (fun k => k = g) := by
  refine (spend_cells g life w (hD.cell_at 3 _ rfl) (hD.frozen 3) hl hl2).mono ?_
  rintro e w' ⟨rfl, hw⟩
  refine ⟨rfl, ?_, ?_⟩
  · unfold spent
    by_cases c : 0 < life
    · rw [if_pos c] at hw ⊢
      rw [hw]
      exact hD.set_ 3 _
    · rw [if_neg c] at hw ⊢
      rw [hw]
      exact hD
  · by_cases c : 0 < life
    · rw [if_pos c] at hw
      rw [hw]
      exact (Only.refl _ (fun k => k = g)).setCell (p := ⟨g, 3, none⟩) (fun _ => rfl) _
    · rw [if_neg c] at hw
      rw [hw]
      exact Only.refl _ _
set_option maxHeartbeats 4000000 in
set_option maxRecDepth 100000 in
theorem write_ok (g gs cap n m : Nat) (base : Nat) (okP : Nat → Prop) (b : List Int) (ab ao : Nat) (c : Nat) (seen : List Int) (pend : List (Int × List Int)) (life : Int) (junk : List Value) (vk vp : Value) (w : World)
    (hD : Hid (Blk w g 93 [vk, .slice (some ⟨gs, 0, none⟩) seen.length cap, vp, .int .i64 life])) (hS : Hid (Blk w gs 5 (icells .u8 seen ++ junk))) (hl : seen.length = n * 32) (hn : n ≤ 8192) (hc : seen.length ≤ cap)
    (HP : Hid (Wr.R 98 w base (fun k => okP k ∧ k ≠ gs) vp pend)) (hbase : base ≤ w.heap.size) (hpl : (pend.length + 1) * 32 ≤ 140737488355328)
    (hm : m < n) (hlife : life ≠ 0) (hl1 : -1 ≤ life) (hl2 : life ≤ 9223372036854775807) (hb : Hid ((Kd.int .u8).C w (some ⟨ab, ao, none⟩) 32 b)) (hab : ab ≠ gs) (hable : ab < w.heap.size) :
    Calls Try.prog 48 #[.pointer (some ⟨g, 0, none⟩), .int .i64 (m : Int), .slice (some ⟨ab, ao, none⟩) 32 c] w fun e w' => e = .returned (.int .i64 0) ∧ ∃ vp',
      Blk w' g 93 [vk, .slice (some ⟨gs, 0, none⟩) seen.length cap, vp', .int .i64 (spent life)] ∧ Blk w' gs 5 (icells .u8 (splice seen (m * 32) b) ++ junk) ∧
      Wr.R 98 w' base (fun k => (okP k ∨ w.heap.size ≤ k) ∧ k ≠ gs) vp' (pend ++ [((m : Int), b)]) ∧ Only w w' (fun k => k = g ∨ k = gs ∨ some k = vp.ownBlock) := by
  have h1 := hD.out.cell_at 1 _ rfl
  have h2 := hD.out.cell_at 2 _ rfl
  have h3 := hD.out.cell_at 3 _ rfl
  have hck : Calls Try.prog 63 #[.pointer (some ⟨g, 0, none⟩), .int .i64 (m : Int)] w fun e w' => e = .returned (.int .i64 0) ∧ w = w' := by
    have := check_cells g seen.length cap _ life m w h1 h3 (by omega)
    have e : chk life m (seen.length / 32 : Nat) = 0 := by unfold chk; rw [if_neg hlife, if_neg (by omega)]
    rwa [e] at this
  have HC := Lib.hid hck
  have HL := Lib.hid hl
  clear h3 hck hl hlife
  go_enter Try.func48, Try.ntmps48
  go_wp2_with (first
      | (go_at_call 63; refine HC.out.mono ?_; rintro e w' ⟨rfl, rfl⟩)
      | (go_at_call 51; refine (sector_cells gs seen.length cap m w (by rw [HL.out]; omega) (by rw [HL.out]; omega) hc).mono ?_; rintro e w' ⟨rfl, rfl⟩)
      | ((with_reducible refine gate_dst (N := 28) rfl ?_); go_must (refine copy_blk rfl (.tmp 26) (.tmp 27) 23 23 rfl 5 Try.underlying23 (by kernel_rfl) _ _ 32 _ 32 c rfl rfl gs (m * 32) _ 5 hS (icells .u8 b) ?c1 ?c2 ?c3 ?c4 ?_))
      | fail)
  case c1 => rw [icells_length, hb.out.1]; rfl
  case c2 =>
    intro _
    obtain ⟨ad, had, hcell⟩ := C_cells hb.out (by omega)
    obtain rfl : (⟨ab, ao, none⟩ : Addr) = ad := by injection had
    first | exact hcell | (intro j v hv; have := hcell j v hv; rwa [add_flat] at this)
  case c3 => rw [icells_length, hb.out.1, List.length_append, icells_length, HL.out]; omega
  case c4 => exact icells_one _ _
  intro w1 hS1 ho1
  have hgs : g ≠ gs := Blk.ne_ hD.out hS.out (by decide)
  have hD1 := Lib.hid (hD.out.keep ho1.out hgs)
  have k2 := hD1.out.cell_at 2 _ rfl
  have hsrc : Hid (∀ j v, (icells .u8 b)[j]? = some v → w1.cell? (Addr.add ⟨ab, ao, none⟩ j) = some v) := by
    refine Lib.hid fun j v hv => ?_
    obtain ⟨ad, had, hcell⟩ := C_cells hb.out (by omega)
    obtain rfl : (⟨ab, ao, none⟩ : Addr) = ad := by injection had
    have h5 := hcell j v hv
    rw [ho1.out.cell (by rw [block_of_add]; exact hable) (by rw [block_of_add]; exact hab)]
    exact h5
  have HP1 : Hid (Wr.R 98 w1 base (fun k => okP k ∧ k ≠ gs) vp pend) := Lib.hid (Kd.R_step HP.out (fun k hk hlt => ho1.out.block k hlt hk.2))
  have hbl : b.length = 32 := hb.out.1
  have hgp : Hid (some g ≠ vp.ownBlock) := Lib.hid (Kd.R_ne HP1.out (show w1.heap[g]? = _ from hD1.out) (by decide))
  have f2 := hD1.out.frozen 2
  have HSZ := Lib.hid ho1.out.size
  have hgs := Lib.hid hgs
  clear h1 h2 HC hb HP
  go_wp2_with fail
  have hbase1 : base ≤ w1.heap.size := Nat.le_trans hbase HSZ.out
  have APP : Hid (∀ (w2 : World) (Av : Option Addr) (cv : Nat), (Kd.int .u8).R 5 w2 w1.drew.heap.size (fun _ => True) (.slice Av 32 cv) b → Below w1.drew.heap.size w1.drew w2 →
      Wr.M w2 base (fun k => w1.heap.size ≤ k) ((m : Int), b) [.int .i64 m, .slice Av 32 cv] ∧ (∀ k, w1.heap.size ≤ k → ((okP k ∨ w1.heap.size ≤ k) ∧ k ≠ gs) ∧ some k ≠ vp.ownBlock) ∧ (∀ k, w2.heap.size ≤ k → (okP k ∨ w1.heap.size ≤ k) ∧ k ≠ gs) ∧
      Wr.R 98 w2 base (fun k => (okP k ∨ w1.heap.size ≤ k) ∧ k ≠ gs) vp pend ∧ base ≤ w2.heap.size) := by
    refine Lib.hid fun w2 Av cv hr hb => ?_
    have hsz : w1.heap.size ≤ w2.heap.size := hb.size
    have hgl := hS1.out.lt
    refine ⟨⟨[.int .i64 m], [.slice Av 32 cv], rfl, rfl, ⟨_, rfl, Kd.R_lower (Kd.R_mono (Kd.R_bound hr) (fun k hk => hk.2.1)) hbase1⟩⟩, fun k hk => ⟨⟨.inr hk, by omega⟩, fun e => ?_⟩, fun k hk => ⟨.inr (by omega), by omega⟩, Kd.R_mono (Kd.R_below (Kd.R_drew HP1.out) hb) (fun k hk => ⟨.inl hk.1, hk.2⟩), by omega⟩
    have := Kd.R_lt HP1.out k e.symm
    omega
  have hglt : Hid (g < w1.heap.size) := Lib.hid hD1.out.lt
  go_region_law (first
    | (refine Kd.R_append_step Wr (w0 := w2) base rfl (.tmp 33) (.tmp 38) 91 98 (.agg #[.int .i64 0, .slice none 0 0]) 32 rfl Try.underlying91 info70 rfl (by decide) (by decide) vp pend ((m : Int), b) [.int .i64 m, .slice Av 32 cv] (fun k => (okP k ∨ w1.heap.size ≤ k) ∧ k ≠ gs) (fun k => w1.heap.size ≤ k) rfl rfl (APP.out w2 Av cv HR.out HB.out).1 (APP.out w2 Av cv HR.out HB.out).2.1 (APP.out w2 Av cv HR.out HB.out).2.2.1 (APP.out w2 Av cv HR.out HB.out).2.2.2.1 (Below.refl _ _) (APP.out w2 Av cv HR.out HB.out).2.2.2.2 hpl ?_; intro v1 w3 hR3 hb3 hg3 hat3; obtain ⟨A3, c3, ev3⟩ := Kd.R_slice hR3; subst ev3; have HR3 := Lib.hid hR3; have HG3 := Lib.hid hg3; have HAT := Lib.hid hat3; clear hR3 hb3 hg3 hat3; have k3 : w3.cell? ⟨g, 2, none⟩ = some vp := ((Only.of_grown HG3.out).cell (World.block_lt_of_cell? _ _ k2b) hgp.out).trans k2b; have f3 : w3.frozen? ⟨g, 2, none⟩ = false := ((Only.of_grown HG3.out).frozen (World.block_lt_of_cell? _ _ k2b) hgp.out).trans f2b)
    | (go_simp; go_at_call 33; refine (clone_any ab ao 32 _ b w1.drew hbl (by omega) (fun j v hv => hsrc.out j v hv)).mono ?_; rintro e w2 ⟨v, rfl, hr, hbl2⟩; obtain ⟨Av, cv, ev⟩ := Kd.R_slice hr; subst ev; rw [hbl] at hr; have HR := Lib.hid hr; have HB := Lib.hid hbl2; clear hr hbl2; have k2b : w2.cell? ⟨g, 2, none⟩ = some vp := (HB.out.cell hglt.out).trans k2; have k2c : ∀ o, (w2.alloc o).cell? ⟨g, 2, none⟩ = some vp := (fun o => ((Below.refl w2.heap.size w2).alloc (Nat.le_refl _) o).cell (World.block_lt_of_cell? _ _ k2b) |>.trans k2b); have f2b : w2.frozen? ⟨g, 2, none⟩ = false := (HB.out.frozen hglt.out).trans f2)
    | fail)
  all_goals
    have D4 := Lib.hid ((((hD1.out.drew).below HB.out hglt.out).keep (Only.of_grown HG3.out) hgp.out).set_ 2 (.slice A3 (pend.length + 1) c3))
  all_goals
    have S4 := Lib.hid ((((hS1.out.drew).below HB.out hS1.out.lt).keep (Only.of_grown HG3.out) (Kd.R_ne HP1.out (show w1.heap[gs]? = _ from hS1.out) (by decide))).far (p := ⟨g, 2, none⟩) (Ne.symm hgs.out) (.slice A3 (pend.length + 1) c3))
    have R4 := Lib.hid (Kd.R_set HR3.out (show w3.heap[g]? = _ from ((hD1.out.drew).below HB.out hglt.out).keep (Only.of_grown HG3.out) hgp.out) (by decide) 2 (.slice A3 (pend.length + 1) c3))
    have O4 := Lib.hid ((((ho1.out.mono (S' := fun k => k = g ∨ k = gs ∨ some k = vp.ownBlock) (fun k _ h => .inr (.inl h))).drew.step (Only.of_below HB.out (fun _ => False)) (fun _ _ h => h.elim)).step (Only.of_grown HG3.out) (fun _ _ h => .inr (.inr h))).setCell (p := ⟨g, 2, none⟩) (fun _ => .inl rfl) (.slice A3 (pend.length + 1) c3))
    clear k2 f2 k2b f2b k2c k3 f3 HR HB HR3 HG3 HAT
    generalize w3.setCell ⟨g, 2, none⟩ (.slice A3 (pend.length + 1) c3) = w4 at *
  all_goals
    go_wp2_with fail
    refine (spend_disk g vk _ (.slice A3 (pend.length + 1) c3) life w4 D4.out hl1 hl2).mono ?_
    rintro e w5 ⟨rfl, d5, o5⟩
    have D5 := Lib.hid d5
    have O5 := Lib.hid o5
    clear d5 o5
    go_wp2
    go_ret
    refine ⟨rfl, .slice A3 (pend.length + 1) c3, D5.out, ?_, ?_, O4.out.step O5.out (fun _ _ h => .inl h)⟩
    · have h5 := S4.out.keep O5.out (Ne.symm hgs.out)
      rw [splice_left _ _ _ _ (by rw [icells_length, icells_length, hbl, HL.out]; omega), icells_splice] at h5
      exact h5
    · have h6 := Kd.R_step (Kd.R_types R4.out (show w4.heap[g]? = _ from D4.out) (by decide)) (w1 := w5) (fun k hk hlt => O5.out.block k hlt hk.2)
      have e : (pend ++ [((m : Int), b)]).length = pend.length + 1 := by simp
      rw [e] at h6
      exact Kd.R_mono h6 (fun k hk => ⟨hk.1.1.imp id (fun h => Nat.le_trans HSZ.out h), hk.1.2⟩)
end Go.Proofs.Ytochnokfcfmgnaa.Dk
end

section
/- The contracts of Barrier, Pending, Live; and the refusals. -/
namespace Go.Proofs.Ytochnokfcfmgnaa.Dk
open Go.RowKit Go.Proofs.Ytochnokfcfmgnaa.Mem Go.Proofs.YtochnokfcfmgnaaW.PrintWords
set_option linter.unusedVariables false
set_option linter.unusedSimpArgs false
set_option maxHeartbeats 2000000 in
theorem barrier_ok (g gk ck gs cs n : Nat) (kept seen : List Int) (life : Int) (jk js : List Value) (vp : Value) (w : World)
    (hD : Hid (Blk w g 93 [.slice (some ⟨gk, 0, none⟩) kept.length ck, .slice (some ⟨gs, 0, none⟩) seen.length cs, vp, .int .i64 life])) (hK : Hid (Blk w gk 5 (icells .u8 kept ++ jk))) (hS : Hid (Blk w gs 5 (icells .u8 seen ++ js)))
    (hl : seen.length = n * 32) (hl' : kept.length = n * 32) (hn1 : 1 ≤ n) (hn : n ≤ 8192) (hlife : life ≠ 0) (hl1 : -1 ≤ life) (hl2 : life ≤ 9223372036854775807) (hks : gk ≠ gs) :
    Calls Try.prog 49 #[.pointer (some ⟨g, 0, none⟩)] w fun e w' => e = .returned (.int .i64 0) ∧
      Blk w' g 93 [.slice (some ⟨gk, 0, none⟩) kept.length ck, .slice (some ⟨gs, 0, none⟩) seen.length cs, .slice none 0 0, .int .i64 (spent life)] ∧ Blk w' gk 5 (icells .u8 seen ++ jk) ∧ Only w w' (fun k => k = g ∨ k = gk) := by
  have h0 := hD.out.cell_at 0 _ rfl
  have h1 := hD.out.cell_at 1 _ rfl
  have h3 := hD.out.cell_at 3 _ rfl
  have hck : Calls Try.prog 63 #[.pointer (some ⟨g, 0, none⟩), .int .i64 0] w fun e w' => e = .returned (.int .i64 0) ∧ w = w' := by
    have := check_cells g seen.length cs _ life 0 w h1 h3 (by omega)
    have e : chk life 0 (seen.length / 32 : Nat) = 0 := by unfold chk; rw [if_neg hlife, if_neg (by omega)]
    rwa [e] at this
  have HC := Lib.hid hck
  have HL := Lib.hid hl
  have HL' := Lib.hid hl'
  clear h3 hck hl hl' hlife
  go_enter Try.func49, Try.ntmps49
  go_wp2_with (first
      | (go_at_call 63; refine HC.out.mono ?_; rintro e w' ⟨rfl, rfl⟩)
      | fail)
  go_region_law (refine step_copy_blk rfl (.tmp 12) (.tmp 16) 23 23 rfl 5 Try.underlying23 (by kernel_rfl) _ _ _ _ _ _ rfl rfl gk 0 _ 5 (Lib.hid hK.out.drew) (icells .u8 seen) (by rw [icells_length, HL.out, HL'.out]; exact (Nat.min_self _).symm) (fun _ => ⟨rfl, _, rfl, fun j v hv => hS.out.drew.at_ 0 seen.length (by omega) j v (by simpa using hv)⟩) (by rw [icells_length, List.length_append, icells_length, HL.out, HL'.out]; omega) (icells_one _ _) ?_; intro w1 hK1 ho1)
  all_goals
    have hgk : Hid (g ≠ gk) := Lib.hid (Blk.ne_ hD.out hK.out (by decide))
    have D1 := Lib.hid (hD.out.drew.keep ho1.out hgk.out)
    have O1 := Lib.hid (show Only w w1 (fun k => k = g ∨ k = gk) from ((Only.refl w _).drew).step ho1.out (fun _ _ h => .inr h))
    have k2 := D1.out.cell_at 2 _ rfl
    have f2 := D1.out.frozen 2
    clear h0 h1 HC
    go_wp2_with fail
    have D2 := Lib.hid (D1.out.set_ 2 (.slice none 0 0))
    have K2 := Lib.hid (hK1.out.far (p := ⟨g, 2, none⟩) (Ne.symm hgk.out) (.slice none 0 0))
    have O2 := Lib.hid (O1.out.setCell (p := ⟨g, 2, none⟩) (fun _ => .inl rfl) (.slice none 0 0))
    clear k2 f2
    generalize w1.setCell ⟨g, 2, none⟩ (.slice none 0 0) = w2 at *
    refine (spend_disk g _ _ (.slice none 0 0) life w2 D2.out hl1 hl2).mono ?_
    rintro e w3 ⟨rfl, d3, o3⟩
    have D3 := Lib.hid d3
    have O3 := Lib.hid o3
    clear d3 o3
    go_wp2
    go_ret
    refine ⟨rfl, D3.out, ?_, O2.out.step O3.out (fun _ _ h => .inl h)⟩
    have h4 := K2.out.keep O3.out (Ne.symm hgk.out)
    rwa [splice_all _ _ _ (by rw [icells_length, icells_length, HL.out, HL'.out])] at h4
theorem live_cells (g : Nat) (v : Value) (n : Int) (w : World) (h : w.cell? ⟨g, 3, none⟩ = some v) (hf : w.frozen? ⟨g, 3, none⟩ = false) :
    Calls Try.prog 29 #[.pointer (some ⟨g, 0, none⟩), .int .i64 n] w fun e w' => e = .returned (.int .i64 (if n < -1 then 2 else 0)) ∧ w' = if n < -1 then w else w.setCell ⟨g, 3, none⟩ (.int .i64 n) := by
  by_cases c : n < -1
  · rw [if_pos c, if_pos c]
    go_enter Try.func29, Try.ntmps29
    go_wp2
    go_ret
    exact ⟨rfl, rfl⟩
  · rw [if_neg c, if_neg c]
    go_enter Try.func29, Try.ntmps29
    go_wp2
    go_ret
    exact ⟨rfl, rfl⟩
/-! ### a nil disk -/
end Go.Proofs.Ytochnokfcfmgnaa.Dk
end

section
/- The contract of New. -/
namespace Go.Proofs.Ytochnokfcfmgnaa.Dk
open Go.RowKit Go.Proofs.Ytochnokfcfmgnaa.Mem Go.Proofs.YtochnokfcfmgnaaW.PrintWords
set_option linter.unusedVariables false
set_option linter.unusedSimpArgs false
def zeros (n : Nat) : List Int := List.replicate n 0
theorem zeros_length (n : Nat) : (zeros n).length = n := by simp [zeros]
theorem made_zeros (n : Nat) : madeCells #[.int .u8 0] n = (icells .u8 (zeros n)).toArray := by
  apply Array.ext
  · simp [madeCells, icells, zeros]
  · intro i h1 h2
    simp [madeCells, icells, zeros]
    rw [Nat.mod_one]; rfl
theorem make_zeros (n : Nat) (hn : n ≤ 262144) (w : World) : (Instr.makeSlice 23 (.int .i64 (n : Int)) (.int .i64 (n : Int))).run Try.prog w = .ok (.slice (some ⟨w.heap.size, 0, none⟩) n n) (w.alloc (.cells (icells .u8 (zeros n)).toArray 5)) := by
  have := run_make_row' (P := Try.prog) 23 5 (.int .u8 0) 1 Try.underlying23 info5 rfl .i64 .i64 n (by omega) (by omega) w
  rw [made_zeros] at this
  exact this
theorem new_disk {W : World} {base gk gs g n : Nat} (hk : Blk W gk 5 (icells .u8 (zeros n))) (hs : Blk W gs 5 (icells .u8 (zeros n))) (hd : Blk W g 93 [.slice (some ⟨gk, 0, none⟩) n n, .slice (some ⟨gs, 0, none⟩) n n, .slice none 0 0, .int .i64 (-1)])
    (b1 : base ≤ gk) (b2 : base ≤ gs) (b3 : base ≤ g) (hne : gs ≠ gk) (hn : n ≤ 262144) : IsDisk W base (fun _ => True) g ⟨zeros n, zeros n, [], -1⟩ := by
  have r1 := R_shut (ok := fun _ => True) (junk := []) (cap := n) (show Blk W gk 5 (icells .u8 (zeros n) ++ []) by rw [List.append_nil]; exact hk) b1 trivial (by rw [zeros_length]; rfl) (by unfold maxLen; omega)
  have r2 := R_shut (ok := fun k => True ∧ some k ≠ Value.ownBlock (.slice (some ⟨gk, 0, none⟩) n n)) (junk := []) (cap := n) (show Blk W gs 5 (icells .u8 (zeros n) ++ []) by rw [List.append_nil]; exact hs) b2 ⟨trivial, by simpa [Value.ownBlock] using hne⟩ (by rw [zeros_length]; rfl) (by unfold maxLen; omega)
  rw [zeros_length] at r1 r2
  exact ⟨_, _, _, trivial, b3, hd, r1, r2, Kd.R_nil _ _ _ _ _⟩
theorem blk_new_at {W : World} {g : Nat} {t : TypeId} {cs : List Value} (h : W.heap.size = g) : Blk (W.alloc (.cells cs.toArray t)) g t cs := by subst h; exact Blk.new _ _ _
set_option maxHeartbeats 2000000 in
theorem new_ok (n : Nat) (w : World) (h1 : 1 ≤ n) (h2 : n ≤ 8192) : Calls Try.prog 31 #[.int .i64 (n : Int)] w fun e w' => ∃ g, e = .returned (.tuple #[.pointer (some ⟨g, 0, none⟩), .int .i64 0]) ∧
    IsDisk w' w.heap.size (fun _ => True) g ⟨zeros (n * 32), zeros (n * 32), [], -1⟩ ∧ Below w.heap.size w w' := by
  have hmk : ∀ u : World, (Instr.makeSlice 23 (.int .i64 ((n : Int) * 32)) (.int .i64 ((n : Int) * 32))).run Try.prog u = .ok (.slice (some ⟨u.heap.size, 0, none⟩) (n * 32) (n * 32)) (u.alloc (.cells (icells .u8 (zeros (n * 32))).toArray 5)) := fun u => by
    have := make_zeros (n * 32) (by omega) u
    rwa [show (((n * 32 : Nat)) : Int) = (n : Int) * 32 by omega] at this
  go_enter Try.func31, Try.ntmps31
  go_wp2_with fail
  go_region_law fail
  · go_wp2
    go_ret2
    refine ⟨w.heap.size + 1 + 1, rfl, new_disk (gk := w.heap.size) (gs := w.heap.size + 1) ?_ ?_ ?_ (Nat.le_refl _) (by omega) (by omega) (by omega) (by omega), ?_⟩
    · exact ((blk_new_at rfl).alloc _).alloc _
    · exact (blk_new_at (by simp)).alloc _
    · exact blk_new_at (cs := [_, _, _, _]) (by simp)
    · exact (((((Only.refl w (fun _ => False)).drew).alloc _).alloc _).alloc _).below_all
  · go_wp2
    go_ret2
    refine ⟨w.heap.size + 1 + 1, rfl, new_disk (gk := w.heap.size + 1) (gs := w.heap.size) ?_ ?_ ?_ (by omega) (Nat.le_refl _) (by omega) (by omega) (by omega), ?_⟩
    · exact (blk_new_at (by simp)).alloc _
    · exact ((blk_new_at rfl).alloc _).alloc _
    · exact blk_new_at (cs := [_, _, _, _]) (by simp)
    · exact (((((Only.refl w (fun _ => False)).drew).alloc _).alloc _).alloc _).below_all
end Go.Proofs.Ytochnokfcfmgnaa.Dk
end

section
/- The disk's contracts, said of 'IsDisk'. -/
namespace Go.Proofs.Ytochnokfcfmgnaa.Dk
open Go.RowKit Go.Proofs.Ytochnokfcfmgnaa.Mem Go.Proofs.YtochnokfcfmgnaaW.PrintWords
set_option linter.unusedVariables false
set_option linter.unusedSimpArgs false
variable {w : World} {base g n : Nat} {ok : Nat → Prop} {x : DV}
/-- A disk, opened. -/
theorem IsDisk.open_ (h : IsDisk w base ok g x) (hg : Good x n) : ∃ gk ck jk gs cs js A N C, ok g ∧ base ≤ g ∧ ok gk ∧ base ≤ gk ∧ ok gs ∧ base ≤ gs ∧ gk ≠ gs ∧ x.kept.length + jk.length = ck ∧ ck ≤ maxLen ∧ x.seen.length + js.length = cs ∧ cs ≤ maxLen ∧ N = x.pend.length ∧
    Blk w g 93 [.slice (some ⟨gk, 0, none⟩) x.kept.length ck, .slice (some ⟨gs, 0, none⟩) x.seen.length cs, .slice A N C, .int .i64 x.life] ∧ Blk w gk 5 (icells .u8 x.kept ++ jk) ∧ Blk w gs 5 (icells .u8 x.seen ++ js) ∧
    Wr.R 98 w base (fun k => (ok k ∧ k ≠ gk) ∧ k ≠ gs) (.slice A N C) x.pend := by
  obtain ⟨vk, vs, vp, h1, h2, hb, h3, h4, h5⟩ := h
  have := hg.n1
  obtain ⟨gk, ck, jk, rfl, k1, k2, k3, k4, k5, k6⟩ := R_open h3 (by rw [hg.kept]; omega)
  obtain ⟨gs, cs, js, rfl, s1, s2, s3, s4, s5, s6⟩ := R_open h4 (by rw [hg.seen]; omega)
  obtain ⟨A, C, rfl⟩ := Kd.R_slice h5
  have s22 : gs ≠ gk := by have := s2.2; simpa [Value.ownBlock] using this
  exact ⟨gk, ck, jk, gs, cs, js, A, _, C, h1, h2, k2, k1, s2.1, s1, Ne.symm s22, k5, k4, s5, s4, rfl, hb, k6, s6, Kd.R_mono h5 (fun k hk => ⟨⟨hk.1, by have := hk.2.1; simpa [Value.ownBlock] using this⟩, by have := hk.2.2; simpa [Value.ownBlock] using this⟩)⟩
/-- And shut again. -/
theorem IsDisk.shut {gk ck gs cs : Nat} {jk js : List Value} {v : Value} (h1 : ok g) (h2 : base ≤ g) (k1 : ok gk) (k2 : base ≤ gk) (s1 : ok gs) (s2 : base ≤ gs) (hne : gk ≠ gs) (kl : x.kept.length + jk.length = ck) (km : ck ≤ maxLen) (sl : x.seen.length + js.length = cs) (sm : cs ≤ maxLen)
    (hb : Blk w g 93 [.slice (some ⟨gk, 0, none⟩) x.kept.length ck, .slice (some ⟨gs, 0, none⟩) x.seen.length cs, v, .int .i64 x.life]) (kb : Blk w gk 5 (icells .u8 x.kept ++ jk)) (sb : Blk w gs 5 (icells .u8 x.seen ++ js))
    (pb : Wr.R 98 w base (fun k => (ok k ∧ k ≠ gk) ∧ k ≠ gs) v x.pend) : IsDisk w base ok g x :=
  ⟨_, _, _, h1, h2, hb, R_shut kb k2 k1 kl km, R_shut sb s2 ⟨s1, by simpa [Value.ownBlock] using Ne.symm hne⟩ sl sm, Kd.R_mono pb (fun k hk => ⟨hk.1.1, by simpa [Value.ownBlock] using hk.1.2, by simpa [Value.ownBlock] using hk.2⟩)⟩
theorem dk_len (h : IsDisk w base ok g x) (hg : Good x n) : Calls Try.prog 25 #[.pointer (some ⟨g, 0, none⟩)] w fun e w' => e = .returned (.int .i64 n) ∧ w = w' := by
  obtain ⟨gk, ck, jk, gs, cs, js, A, N, C, _, _, _, _, _, _, _, _, _, _, _, _, hb, _⟩ := h.open_ hg
  have := len_cells g x.seen.length cs _ w (hb.cell_at 1 _ rfl) (by rw [hg.seen]; have := hg.n2; omega)
  rwa [show x.seen.length / 32 = n by rw [hg.seen]; omega] at this
theorem dk_read (h : IsDisk w base ok g x) (hg : Good x n) (hn : n ≤ 8192) (s : Int) : Calls Try.prog 44 #[.pointer (some ⟨g, 0, none⟩), .int .i64 s] w fun e w' => ∃ v, e = .returned (.tuple #[v, .int .i64 (chk x.life s n)]) ∧ (Kd.int .u8).R 5 w' w.heap.size (fun _ => True) v (if chk x.life s n = 0 then sec x.seen s else []) ∧ Below w.heap.size w w' := by
  obtain ⟨gk, ck, jk, gs, cs, js, A, N, C, _, _, _, _, _, _, _, _, _, sl, _, _, hb, _, sb, _⟩ := h.open_ hg
  exact read_cells g gs cs n x.life s x.seen js _ _ w (Lib.hid hb) (Lib.hid sb) hg.seen hn (by omega)
/-- What a disk is behind a write, a barrier. -/
def DV.write (x : DV) (m : Nat) (b : List Int) : DV := ⟨x.kept, splice x.seen (m * 32) b, x.pend ++ [((m : Int), b)], spent x.life⟩
def DV.barrier (x : DV) : DV := ⟨x.seen, x.seen, [], spent x.life⟩
theorem spent_good {l : Int} (h : -1 ≤ l ∧ l ≤ 9223372036854775807) : -1 ≤ spent l ∧ spent l ≤ 9223372036854775807 := by unfold spent; split <;> omega
theorem Good.write (hg : Good x n) {m : Nat} (hm : m < n) {b : List Int} (hb : b.length = 32) (hbb : ∀ y ∈ b, 0 ≤ y ∧ y < 256) : Good (x.write m b) n := by
  have hl : (splice x.seen (m * 32) b).length = x.seen.length := length_splice _ _ _ (by rw [hg.seen, hb]; omega)
  refine ⟨hg.n1, hg.n2, hg.kept, hl.trans hg.seen, hg.bk, ?_, ?_, spent_good hg.life⟩
  · intro y hy
    show 0 ≤ y ∧ y < 256
    rcases List.mem_append.1 (show y ∈ x.seen.take (m * 32) ++ (b ++ x.seen.drop (m * 32 + b.length)) from hy) with h | h
    · exact hg.bs y (List.mem_of_mem_take h)
    · rcases List.mem_append.1 h with h | h
      · exact hbb y h
      · exact hg.bs y (List.mem_of_mem_drop h)
  · intro p hp
    rcases List.mem_append.1 (show p ∈ x.pend ++ [((m : Int), b)] from hp) with h | h
    · exact hg.pend p h
    · obtain rfl := List.mem_singleton.1 h
      exact ⟨⟨by simp, by simp; omega⟩, hb, hbb⟩
theorem Good.barrier (hg : Good x n) : Good x.barrier n := ⟨hg.n1, hg.n2, hg.seen, hg.seen, hg.bs, hg.bs, fun p hp => absurd hp (by simp [DV.barrier]), spent_good hg.life⟩
theorem dk_write (h : IsDisk w base ok g x) (hg : Good x n) (hn : n ≤ 8192) (hbase : base ≤ w.heap.size) (hpl : (x.pend.length + 1) * 32 ≤ 140737488355328) (hlife : x.life ≠ 0) (m : Nat) (hm : m < n) (ab ao c : Nat) (b : List Int) (hb : (Kd.int .u8).C w (some ⟨ab, ao, none⟩) 32 b) (hab : ab < w.heap.size) (hne : ¬ ok ab) :
    Calls Try.prog 48 #[.pointer (some ⟨g, 0, none⟩), .int .i64 (m : Int), .slice (some ⟨ab, ao, none⟩) 32 c] w fun e w' => e = .returned (.int .i64 0) ∧
      IsDisk w' base (fun k => ok k ∨ w.heap.size ≤ k) g (x.write m b) ∧ Only w w' ok := by
  obtain ⟨gk, ck, jk, gs, cs, js, A, N, C, o1, o2, k1, k2, s1, s2, hks, kl, km, sl, sm, rfl, hb0, kb, sb, pb⟩ := h.open_ hg
  refine (write_ok g gs cs n m base (fun k => ok k ∧ k ≠ gk) b ab ao c x.seen x.pend x.life js _ _ w (Lib.hid hb0) (Lib.hid sb) hg.seen hn (by omega) (Lib.hid pb) hbase hpl hm hlife hg.life.1 hg.life.2 (Lib.hid hb) (fun e => hne (e ▸ s1)) hab).mono ?_
  rintro e w' ⟨rfl, vp', d, s, p, o⟩
  have hl : (splice x.seen (m * 32) b).length = x.seen.length := length_splice _ _ _ (by rw [hg.seen, hb.1]; omega)
  have hok : ∀ k, (k = g ∨ k = gs ∨ some k = Value.ownBlock (.slice A x.pend.length C)) → ok k ∧ k ≠ gk := by
    rintro k (rfl | rfl | hk)
    · exact ⟨o1, Blk.ne_ hb0 kb (by decide)⟩
    · exact ⟨s1, Ne.symm hks⟩
    · exact (pb.1 k hk.symm).1
  refine ⟨rfl, ?_, o.mono (fun k _ hk => (hok k hk).1)⟩
  refine IsDisk.shut (x := x.write m b) (gk := gk) (ck := ck) (gs := gs) (cs := cs) (jk := jk) (js := js) (v := vp') (.inl o1) o2 (.inl k1) k2 (.inl s1) s2 hks kl km (by show (splice x.seen (m * 32) b).length + js.length = cs; omega) sm ?_ (kb.keep o (fun hk => (hok _ hk).2 rfl)) s ?_
  · show Blk w' g _ [_, .slice (some ⟨gs, 0, none⟩) (splice x.seen (m * 32) b).length cs, _, _]
    rw [hl]
    exact d
  · exact Kd.R_mono p (fun k hk => ⟨⟨hk.1.imp (fun h => h.1) id, fun e => by rcases hk.1 with h | h; exact h.2 e; exact absurd (e ▸ kb.lt) (by omega)⟩, hk.2⟩)
theorem dk_barrier (h : IsDisk w base ok g x) (hg : Good x n) (hn : n ≤ 8192) (hlife : x.life ≠ 0) :
    Calls Try.prog 49 #[.pointer (some ⟨g, 0, none⟩)] w fun e w' => e = .returned (.int .i64 0) ∧ IsDisk w' base ok g x.barrier ∧ Only w w' ok := by
  obtain ⟨gk, ck, jk, gs, cs, js, A, N, C, o1, o2, k1, k2, s1, s2, hks, kl, km, sl, sm, rfl, hb0, kb, sb, pb⟩ := h.open_ hg
  refine (barrier_ok g gk ck gs cs n x.kept x.seen x.life jk js _ w (Lib.hid hb0) (Lib.hid kb) (Lib.hid sb) hg.seen hg.kept hg.n1 hn hlife hg.life.1 hg.life.2 hks).mono ?_
  rintro e w' ⟨rfl, d, s, o⟩
  have hgs : g ≠ gs := Blk.ne_ hb0 sb (by decide)
  refine ⟨rfl, ?_, o.mono (fun k _ hk => by rcases hk with rfl | rfl; exact o1; exact k1)⟩
  refine IsDisk.shut (x := x.barrier) (gk := gk) (ck := ck) (gs := gs) (cs := cs) (jk := jk) (js := js) o1 o2 k1 k2 s1 s2 hks (by show x.seen.length + jk.length = ck; rw [hg.seen, ← hg.kept]; exact kl) km sl sm ?_ s (sb.keep o (fun hk => by rcases hk with hk | hk; exact hgs hk.symm; exact hks hk.symm)) (Kd.R_nil _ _ _ _ _)
  show Blk w' g _ [.slice (some ⟨gk, 0, none⟩) x.seen.length ck, _, _, _]
  rw [hg.seen, ← hg.kept, hg.kept, ← hg.seen]
  rw [show x.kept.length = x.seen.length by rw [hg.kept, hg.seen]] at d
  exact d
end Go.Proofs.Ytochnokfcfmgnaa.Dk
end

section
/- awake: a disk of two sectors, a write, a read. -/
namespace Go.Proofs.Ytochnokfcfmgnaa.Dk
open Go.RowKit Go.Proofs.Ytochnokfcfmgnaa.Mem Go.Proofs.YtochnokfcfmgnaaW.PrintWords
set_option linter.unusedVariables false
set_option linter.unusedSimpArgs false
theorem C_of_blk {w : World} {g o n : Nat} {t : TypeId} {k : IntKind} {xs : List Int} (hb : Blk w g t (icells k xs)) (h : o + n ≤ xs.length) (hx : xs.length ≤ 9223372036854775807) : (Kd.int k).C w (some ⟨g, o, none⟩) n ((xs.drop o).take n) := by
  have hl : ((xs.drop o).take n).length = n := by simp; omega
  refine ⟨hl, by omega, fun _ => ⟨_, rfl, fun j p hj => ⟨[.int k p], rfl, rfl, fun i u hu => ?_⟩⟩⟩
  match i, hu with
  | 0, hu =>
    simp at hu
    subst hu
    rw [add_flat, show (Kd.int k).sz = 1 from rfl, show o + (j * 1 + 0) = o + j by omega]
    have hjn : j < n := by
      have := (List.getElem?_eq_some_iff.1 hj).1
      omega
    rw [List.getElem?_take, if_pos hjn, List.getElem?_drop] at hj
    exact hb.cell_at _ _ (by simp [icells, hj])
theorem zeros_bytes (n : Nat) : ∀ y ∈ zeros n, 0 ≤ y ∧ y < 256 := by
  intro y hy
  have := List.eq_of_mem_replicate hy
  omega
theorem good_new (n : Nat) (h1 : 1 ≤ n) (h2 : n ≤ 8192) : Good ⟨zeros (n * 32), zeros (n * 32), [], -1⟩ n :=
  ⟨h1, h2, zeros_length _, zeros_length _, zeros_bytes _, zeros_bytes _, fun p hp => absurd hp List.not_mem_nil, ⟨Int.le_refl _, show (-1 : Int) ≤ 9223372036854775807 by decide⟩⟩
end Go.Proofs.Ytochnokfcfmgnaa.Dk
end

section
/- pages over a disk: the small contracts; PagesNil, walked. -/
namespace Go.Proofs.Ytochnokfcfmgnaa.Pg
open Go.RowKit Go.Proofs.Ytochnokfcfmgnaa.Mem Go.Proofs.YtochnokfcfmgnaaW.PrintWords Go.Proofs.Ytochnokfcfmgnaa.Dk
set_option linter.unusedVariables false
set_option linter.unusedSimpArgs false
theorem count_any {w : World} {base g n : Nat} {ok : Nat → Prop} {x : DV} (h : IsDisk w base ok g x) (hg : Dk.Good x n) : Calls Try.prog 45 #[.pointer (some ⟨g, 0, none⟩)] w fun e w' => e = .returned (.int .i64 (n / 4 : Nat)) ∧ w = w' := by
  have HL := Lib.hid (dk_len h hg)
  have hn := hg.n2
  clear h
  go_enter Try.func45, Try.ntmps45
  go_wp2_with (first
    | (go_at_call 25; refine HL.out.mono ?_; rintro e w' ⟨rfl, rfl⟩)
    | fail)
  go_ret
  exact ⟨by simp, rfl⟩
theorem check_ok {w : World} {base g n : Nat} {ok : Nat → Prop} {x : DV} (h : IsDisk w base ok g x) (hg : Dk.Good x n) (p : Int) (h0 : 0 ≤ p) (h1 : p < (n / 4 : Nat)) : Calls Try.prog 74 #[.pointer (some ⟨g, 0, none⟩), .int .i64 p] w fun e w' => e = .returned (.int .i64 0) ∧ w = w' := by
  have HC := Lib.hid (count_any h hg)
  clear h
  obtain ⟨m, hm⟩ : ∃ m, n / 4 = m := ⟨_, rfl⟩
  rw [hm] at h1 HC
  clear hm
  go_enter Try.func74, Try.ntmps74
  go_wp2_with (first
    | (go_at_call 45; refine HC.out.mono ?_; rintro e w' ⟨rfl, rfl⟩)
    | fail)
  go_ret
  exact ⟨rfl, rfl⟩
theorem check_bad {w : World} {base g n : Nat} {ok : Nat → Prop} {x : DV} (h : IsDisk w base ok g x) (hg : Dk.Good x n) (p : Int) (hp : p < 0 ∨ ¬ p < 0 ∧ ¬ p < (n / 4 : Nat)) : Calls Try.prog 74 #[.pointer (some ⟨g, 0, none⟩), .int .i64 p] w fun e w' => e = .returned (.int .i64 4) ∧ w = w' := by
  have HC := Lib.hid (count_any h hg)
  clear h
  obtain ⟨m, hm⟩ : ∃ m, n / 4 = m := ⟨_, rfl⟩
  rw [hm] at hp HC
  clear hm
  rcases hp with hp | ⟨hp', hp⟩
  all_goals
    go_enter Try.func74, Try.ntmps74
    go_wp2_with (first
      | (go_at_call 45; refine HC.out.mono ?_; rintro e w' ⟨rfl, rfl⟩)
      | fail)
    go_ret
    exact ⟨rfl, rfl⟩
end Go.Proofs.Ytochnokfcfmgnaa.Pg
end

section
/- Seat F: ShadowNil: a nil store. -/
namespace Go.Proofs.Ytochnokfcfmgnaa.Sh
open Go.RowKit Go.Proofs.Ytochnokfcfmgnaa.Mem Go.Proofs.YtochnokfcfmgnaaW.PrintWords Go.Proofs.Ytochnokfcfmgnaa.Dk
set_option linter.unusedVariables false
set_option linter.unusedSimpArgs false
/-- The errors of a store that is awake. -/
theorem check_ok (g : Nat) (a b c d e f : Value) (i : Int) (w : World) (h : Blk w g 76 [a, b, c, d, e, f, .bool false]) (h0 : 0 ≤ i) (h1 : i < 728) :
    Calls Try.prog 32 #[.pointer (some ⟨g, 0, none⟩), .int .i64 i] w fun e w' => e = .returned (.int .i64 0) ∧ w' = w := by
  have h6 := h.cell_at 6 _ rfl
  have g1 : decide (i < 0) = false := decide_eq_false (by omega)
  have g2 : decide (728 ≤ i) = false := decide_eq_false (by omega)
  go_enter Try.func32, Try.ntmps32
  go_wp2
  all_goals go_ret
  all_goals exact ⟨rfl, rfl⟩
theorem epoch_ok (g : Nat) (a b d e f : Value) (n : Int) (w : World) (h : Blk w g 76 [a, b, .int .u64 n, d, e, f, .bool false]) :
    Calls Try.prog 22 #[.pointer (some ⟨g, 0, none⟩)] w fun e w' => e = .returned (.int .u64 n) ∧ w' = w := by
  have h6 := h.cell_at 6 _ rfl
  have h2 := h.cell_at 2 _ rfl
  go_enter Try.func22, Try.ntmps22
  go_wp2
  go_ret
  exact ⟨rfl, rfl⟩
end Go.Proofs.Ytochnokfcfmgnaa.Sh
end

section
/- Seat F: a disk under a store: which blocks it may have. -/
namespace Go.Proofs.Ytochnokfcfmgnaa.Sh
open Go.RowKit Go.Proofs.Ytochnokfcfmgnaa.Mem Go.Proofs.YtochnokfcfmgnaaW.PrintWords Go.Proofs.Ytochnokfcfmgnaa.Dk
set_option linter.unusedVariables false
set_option linter.unusedSimpArgs false
/-- The disk's blocks: from base on, ahead of N, not T. -/
def okN (base N : Nat) (T : Nat → Prop) (k : Nat) : Prop := base ≤ k ∧ k < N ∧ ¬ T k
structure DK (w : World) (base d N p : Nat) (T : Nat → Prop) : Prop where
  x : ∃ x, IsDisk w base (okN base N T) d x ∧ Dk.Good x 16 ∧ x.life = -1 ∧ x.pend.length ≤ p
  hN : N ≤ w.heap.size
  hb : base ≤ N
  hT : ∀ k, T k → k < w.heap.size
theorem spent_m1 : spent (-1) = -1 := by decide
theorem DK.keep {w w' : World} {base d N p : Nat} {T S : Nat → Prop} (h : DK w base d N p T) (ho : Only w w' S) (hs : ∀ k, okN base N T k → ¬ S k) : DK w' base d N p T := by
  obtain ⟨x, hx, r⟩ := h.x
  exact ⟨⟨x, hx.keep ho hs, r⟩, Nat.le_trans h.hN ho.size, h.hb, fun k hk => Nat.lt_of_lt_of_le (h.hT k hk) ho.size⟩
theorem DK.write {w : World} {base d N p : Nat} {T : Nat → Prop} (h : DK w base d N p T) (hp : p ≤ 1000) (m : Nat) (hm : m < 16) (ab ao c : Nat) (b : List Int) (hb : (Kd.int .u8).C w (some ⟨ab, ao, none⟩) 32 b) (hbb : ∀ y ∈ b, 0 ≤ y ∧ y < 256) (hab : ab < w.heap.size) (hn : N ≤ ab) :
    Calls Try.prog 48 #[.pointer (some ⟨d, 0, none⟩), .int .i64 (m : Int), .slice (some ⟨ab, ao, none⟩) 32 c] w fun e w' => e = .returned (.int .i64 0) ∧ DK w' base d w'.heap.size (p + 1) T ∧ Only w w' (okN base N T) := by
  obtain ⟨x, hx, hg, hl, hq⟩ := h.x
  refine (dk_write hx hg (by omega) (Nat.le_trans h.hb h.hN) (by omega) (by rw [hl]; decide) m hm ab ao c b hb hab (fun hk => by have := hk.2.1; omega)).mono ?_
  rintro e w' ⟨rfl, d', o⟩
  refine ⟨rfl, ⟨⟨x.write m b, (IsDisk.bound d').mono ?_, hg.write hm hb.1 hbb, ?_, ?_⟩, Nat.le_refl _, Nat.le_trans h.hb (Nat.le_trans h.hN o.size), fun k hk => Nat.lt_of_lt_of_le (h.hT k hk) o.size⟩, o⟩
  · rintro k ⟨hk, hk1, hk2⟩
    refine ⟨hk1, hk2, fun ht => ?_⟩
    rcases hk with hk | hk
    · exact hk.2.2 ht
    · exact absurd (h.hT k ht) (by omega)
  · show spent x.life = -1
    rw [hl]; exact spent_m1
  · show (x.pend ++ [((m : Int), b)]).length ≤ p + 1
    simp; omega
theorem DK.barrier {w : World} {base d N p : Nat} {T : Nat → Prop} (h : DK w base d N p T) :
    Calls Try.prog 49 #[.pointer (some ⟨d, 0, none⟩)] w fun e w' => e = .returned (.int .i64 0) ∧ DK w' base d N p T ∧ Only w w' (okN base N T) := by
  obtain ⟨x, hx, hg, hl, hq⟩ := h.x
  refine (dk_barrier hx hg (by omega) (by rw [hl]; decide)).mono ?_
  rintro e w' ⟨rfl, d', o⟩
  refine ⟨rfl, ⟨⟨x.barrier, d', hg.barrier, by show spent x.life = -1; rw [hl]; exact spent_m1, by show ([] : List (Int × List Int)).length ≤ p; simp⟩, Nat.le_trans h.hN o.size, h.hb, fun k hk => Nat.lt_of_lt_of_le (h.hT k hk) o.size⟩, o⟩
theorem DK.count {w : World} {base d N p : Nat} {T : Nat → Prop} (h : DK w base d N p T) : Calls Try.prog 45 #[.pointer (some ⟨d, 0, none⟩)] w fun e w' => e = .returned (.int .i64 4) ∧ w = w' := by
  obtain ⟨x, hx, hg, hl, hq⟩ := h.x
  exact Pg.count_any hx hg
/-- A new disk. -/
theorem DK.new (w : World) : Calls Try.prog 31 #[.int .i64 16] w fun e w' => ∃ d, e = .returned (.tuple #[.pointer (some ⟨d, 0, none⟩), .int .i64 0]) ∧ DK w' w.heap.size d w'.heap.size 0 (fun _ => False) ∧ Below w.heap.size w w' := by
  refine (new_ok 16 w (by omega) (by omega)).mono ?_
  rintro e w' ⟨d, rfl, h, hb⟩
  exact ⟨d, rfl, ⟨⟨_, (IsDisk.bound h).mono (fun k hk => ⟨hk.2.1, hk.2.2, fun h => h⟩), good_new 16 (by omega) (by omega), rfl, by simp⟩, Nat.le_refl _, hb.size, fun k hk => hk.elim⟩, hb⟩
/-- What is laid behind the disk is not the disk's. -/
theorem DK.taboo {w : World} {base d N p : Nat} {T T' : Nat → Prop} (h : DK w base d N p T) (hT : ∀ k, T' k → N ≤ k ∧ k < w.heap.size) (hTT : ∀ k, T k → T' k) : DK w base d N p T' := by
  obtain ⟨x, hx, r⟩ := h.x
  exact ⟨⟨x, hx.mono (fun k hk => ⟨hk.1, hk.2.1, fun ht => by have := (hT k ht).1; have := hk.2.1; omega⟩), r⟩, h.hN, h.hb, fun k hk => (hT k hk).2⟩
end Go.Proofs.Ytochnokfcfmgnaa.Sh
end
