/- Words for the disk: a copy that turns one block alone; a row of numbers of one's own, opened and shut; what a disk is in memory. -/
import Derived.Test.YtochnokfcfmgnaaMem
import Derived.Test.YtochnokfcfmgnaaWWords
namespace Go.Proofs.Ytochnokfcfmgnaa.Mem
open Go.RowKit Go.Proofs.YtochnokfcfmgnaaW.PrintWords
set_option linter.unusedVariables false
set_option linter.unusedSimpArgs false

/-- The whole row is turned: no other block. -/
theorem Only.setRow (w : World) (g : Nat) (cs : Array Value) : Only w (w.setRow g cs) (fun k => k = g) :=
  ⟨rfl, rfl, rfl, by simp [World.setRow], fun k _ hk => setRow_other w g k cs hk⟩
/-- A copy into a row that is known whole: that block turns, and no other. -/
theorem copy_blk {P : Program} {w : World} {ops : Array Oper} {rest : List Oper} {o : Oper} {a : Act} {Q : Exit → Act → World → Prop} (hgd : o.guard = none) (d s : Operand) (dT sT : TypeId)
    (ho : o.op = .call { callee := .builtin .copy, args := #[d, s], argTypes := #[dT, sT] }) (elem : TypeId) (hu : P.underlying dT = some (.slice elem)) (hsz : (P.info? elem).map (·.size) = some 1)
    (dp sp : Option Addr) (dLen dCap sLen sCap : Nat) (hd : a.eval d = .slice dp dLen dCap) (hs : a.eval s = .slice sp sLen sCap)
    (g off : Nat) (cur : List Value) (t : TypeId) (hg : Hid (Blk w g t cur)) (cs : List Value) (hn : cs.length = Nat.min sLen dLen)
    (hpos : 0 < cs.length → dp = some ⟨g, off, none⟩ ∧ ∃ ad, sp = some ad ∧ ∀ j v, cs[j]? = some v → w.cell? (ad.add j) = some v)
    (hfit : off + cs.length ≤ cur.length) (h1 : ∀ v ∈ cs, v.oneCell' = true)
    (h : ∀ w', Hid (Blk w' g t (splice cur off cs)) → Hid (Only w w' (fun k => k = g)) → wpList P ops Q rest (a.put o.dst (goInt cs.length)) w') :
    wpList P ops Q (o :: rest) a w := by
  have hg := hg.out
  by_cases h0 : cs.length = 0
  · obtain rfl : cs = [] := List.eq_nil_of_length_eq_zero h0
    refine wpList_copy_nothing hgd d s dT sT ho elem hu hsz dp sp dLen dCap sLen sCap hd hs (by simpa using hn.symm) ?_
    exact h w (Lib.hid (by simpa [splice] using hg)) (Lib.hid (Only.refl _ _))
  · obtain ⟨rfl, ad, rfl, hsrc⟩ := hpos (by omega)
    refine wpList_copy_own hgd d s dT sT ho elem hu hsz g off dLen dCap ad sLen sCap hd hs cur.toArray t hg cs hn hsrc (by simpa using hfit) h1 ?_
    exact h _ (Lib.hid (by unfold Blk; simpa [splice] using setRow_heap w g _ _ t _ hg)) (Lib.hid (Only.setRow _ _ _))

/-- The same as one step of a region that draws its order. -/
theorem step_copy_blk {P : Program} {ops : Array Oper} {o : Oper} {a : Act} {w : World} {K : Act → World → Prop} {Q : Exit → Act → World → Prop} {E : Prop} (hgd : o.guard = none) (d s : Operand) (dT sT : TypeId)
    (ho : o.op = .call { callee := .builtin .copy, args := #[d, s], argTypes := #[dT, sT] }) (elem : TypeId) (hu : P.underlying dT = some (.slice elem)) (hsz : (P.info? elem).map (·.size) = some 1)
    (dp sp : Option Addr) (dLen dCap sLen sCap : Nat) (hd : a.eval d = .slice dp dLen dCap) (hs : a.eval s = .slice sp sLen sCap)
    (g off : Nat) (cur : List Value) (t : TypeId) (hg : Hid (Blk w g t cur)) (cs : List Value) (hn : cs.length = Nat.min sLen dLen)
    (hpos : 0 < cs.length → dp = some ⟨g, off, none⟩ ∧ ∃ ad, sp = some ad ∧ ∀ j v, cs[j]? = some v → w.cell? (ad.add j) = some v)
    (hfit : off + cs.length ≤ cur.length) (h1 : ∀ v ∈ cs, v.oneCell' = true)
    (h : ∀ w', Hid (Blk w' g t (splice cur off cs)) → Hid (Only w w' (fun k => k = g)) → K (a.put o.dst (goInt cs.length)) w') :
    if Region.wanted o (yielded ops a.tmps) = true then Oper.wp P o a w K Q else E := by
  have hw : Region.wanted o (yielded ops a.tmps) = true := by simp [Region.wanted, hgd]
  have hg := hg.out
  rw [if_pos hw]
  by_cases h0 : cs.length = 0
  · obtain rfl : cs = [] := List.eq_nil_of_length_eq_zero h0
    have hrun := run_copy_none (P := P) w dT sT o.type elem dp sp dLen dCap sLen sCap hu hsz (by simpa using hn.symm)
    unfold Oper.wp
    simp [execOp, ho, resolve, invoke, builtin, hd, hs, hrun, Result.andThen]
    exact h w (Lib.hid (by simpa [splice] using hg)) (Lib.hid (Only.refl _ _))
  · obtain ⟨rfl, ad, rfl, hsrc⟩ := hpos (by omega)
    have hrun := run_copy_row (P := P) w dT sT o.type elem g off dLen dCap ad sLen sCap cur.toArray t cs hu hsz hg hn hsrc (by simpa using hfit) h1
    unfold Oper.wp
    simp [execOp, ho, resolve, invoke, builtin, hd, hs, hrun, Result.andThen]
    exact h _ (Lib.hid (by unfold Blk; simpa [splice] using setRow_heap w g _ _ t _ hg)) (Lib.hid (Only.setRow _ _ _))

/-- A row of numbers of one's own, opened: its block, whole: the numbers, and what lies behind them. -/
theorem R_open {w : World} {base : Nat} {ok : Nat → Prop} {k : IntKind} {t : TypeId} {v : Value} {xs : List Int} (h : (Kd.int k).R t w base ok v xs) (hp : 0 < xs.length) :
    ∃ g cap junk, v = .slice (some ⟨g, 0, none⟩) xs.length cap ∧ base ≤ g ∧ ok g ∧ xs.length ≤ cap ∧ cap ≤ maxLen ∧ xs.length + junk.length = cap ∧ Blk w g t (icells k xs ++ junk) := by
  have ho := Kd.own_of_R h
  rcases ho.2 with ⟨_, hn⟩ | ⟨g, cap, cur, rfl, hg, hh, hl, hm, hs, ht⟩
  · omega
  · refine ⟨g, cap, cur.toList.drop xs.length, rfl, hg, h.1 g (by simp [Value.ownBlock]), hl, hm, by simp; omega, ?_⟩
    have e : icells k xs ++ cur.toList.drop xs.length = cur.toList := by
      have e1 : icells k xs = cur.toList.take xs.length := by rw [Nat.mul_one] at ht; rw [ht]; rfl
      rw [e1, List.take_append_drop]
    unfold Blk
    rw [e]
    simpa using hh
theorem R_shut {w : World} {base g cap : Nat} {ok : Nat → Prop} {k : IntKind} {t : TypeId} {xs : List Int} {junk : List Value} (hb : Blk w g t (icells k xs ++ junk)) (hg : base ≤ g) (hok : ok g) (hl : xs.length + junk.length = cap) (hm : cap ≤ maxLen) :
    (Kd.int k).R t w base ok (.slice (some ⟨g, 0, none⟩) xs.length cap) xs := by
  refine Kd.R_of_own ⟨by simp [encs], .inr ⟨g, cap, (icells k xs ++ junk).toArray, rfl, hg, hb, by omega, hm, by simp [icells_length]; omega, by rw [Nat.mul_one]; simp [icells, encs]⟩⟩ (fun k hk => ?_)
  have : g = k := by simpa [Value.ownBlock] using hk
  subst this
  exact hok
theorem splice_all {α : Type} (a b c : List α) (h : c.length = a.length) : splice (a ++ b) 0 c = c ++ b := by
  unfold splice
  rw [List.take_zero, List.nil_append, Nat.zero_add, h, List.drop_left]
theorem splice_left {α : Type} (a b c : List α) (o : Nat) (h : o + c.length ≤ a.length) : splice (a ++ b) o c = splice a o c ++ b := by
  unfold splice
  rw [List.take_append_of_le_length (by omega), List.drop_append_of_le_length (by omega)]
  simp [List.append_assoc]
/-- The cells of a row, at a place. -/
theorem Blk.at_ {w : World} {g : Nat} {t : TypeId} {k : IntKind} {xs : List Int} {junk : List Value} (hb : Blk w g t (icells k xs ++ junk)) (o n : Nat) (h : o + n ≤ xs.length) : ∀ j v, (icells k ((xs.drop o).take n))[j]? = some v → w.cell? (Addr.add ⟨g, o, none⟩ j) = some v := by
  intro j v hv
  rw [add_flat]
  have hj : j < ((xs.drop o).take n).length := by
    have := (List.getElem?_eq_some_iff.1 hv).1
    simpa [icells] using this
  rw [List.length_take, List.length_drop] at hj
  refine hb.cell_at _ _ ?_
  rw [List.getElem?_append_left (by rw [icells_length]; omega)]
  simp only [icells, List.getElem?_map, List.getElem?_take, List.getElem?_drop] at hv ⊢
  rw [if_pos (by omega)] at hv
  exact hv
/-- A row that is owned is read. -/
theorem R_cells {w : World} {base : Nat} {ok : Nat → Prop} {k : IntKind} {t : TypeId} {A : Option Addr} {n c : Nat} {xs : List Int} (h : (Kd.int k).R t w base ok (.slice A n c) xs) : n = xs.length ∧ n ≤ c ∧ (Kd.int k).C w A xs.length xs := Kd.R_reads' h
theorem C_cells {w : World} {A : Option Addr} {n : Nat} {k : IntKind} {xs : List Int} (h : (Kd.int k).C w A n xs) (hn : 0 < n) : ∃ ad, A = some ad ∧ ∀ j v, (icells k xs)[j]? = some v → w.cell? (ad.add j) = some v := by
  obtain ⟨ad, e, hc⟩ := h.2.2 hn
  refine ⟨ad, e, fun j v hv => ?_⟩
  simp only [icells, List.getElem?_map, Option.map_eq_some_iff] at hv
  obtain ⟨p, hp, rfl⟩ := hv
  obtain ⟨cs, hl, hk, hcell⟩ := hc j p hp
  have e2 : cs = [.int k p] := hk
  subst e2
  have := hcell 0 (.int k p) rfl
  rwa [show (Kd.int k).sz = 1 from rfl, show j * 1 + 0 = j by omega] at this
end Go.Proofs.Ytochnokfcfmgnaa.Mem

namespace Go.Proofs.Ytochnokfcfmgnaa.Dk
open Go.RowKit Go.Proofs.Ytochnokfcfmgnaa.Mem Go.Proofs.YtochnokfcfmgnaaW.PrintWords
set_option linter.unusedVariables false

/-- A write that is pending: its sector and its bytes. -/
abbrev Wr : Kd (Int × List Int) := Kd.pair (Kd.int .i64) (Kd.slice 5 (Kd.int .u8))
/-- What a disk holds. -/
structure DV where
  kept : List Int
  seen : List Int
  pend : List (Int × List Int)
  life : Int
/-- What every disk keeps. -/
structure Good (x : DV) (n : Nat) : Prop where
  n1 : 1 ≤ n
  n2 : n ≤ 8192
  kept : x.kept.length = n * 32
  seen : x.seen.length = n * 32
  bk : ∀ y ∈ x.kept, 0 ≤ y ∧ y < 256
  bs : ∀ y ∈ x.seen, 0 ≤ y ∧ y < 256
  pend : ∀ p ∈ x.pend, (0 ≤ p.1 ∧ p.1 < n) ∧ p.2.length = 32 ∧ ∀ y ∈ p.2, 0 ≤ y ∧ y < 256
  life : -1 ≤ x.life ∧ x.life ≤ 9223372036854775807
/-- A disk in memory: the struct at block g, two rows of bytes and the row of pending writes, all of them apart. -/
def IsDisk (w : World) (base : Nat) (ok : Nat → Prop) (g : Nat) (x : DV) : Prop := ∃ vk vs vp, ok g ∧ base ≤ g ∧
  Blk w g 93 [vk, vs, vp, .int .i64 x.life] ∧
  (Kd.int .u8).R 5 w base ok vk x.kept ∧
  (Kd.int .u8).R 5 w base (fun k => ok k ∧ some k ≠ vk.ownBlock) vs x.seen ∧
  Wr.R 98 w base (fun k => ok k ∧ some k ≠ vk.ownBlock ∧ some k ≠ vs.ownBlock) vp x.pend
section
variable {w w' : World} {base g : Nat} {ok ok' S : Nat → Prop} {x : DV}
theorem IsDisk.lt (h : IsDisk w base ok g x) : g < w.heap.size := by obtain ⟨vk, vs, vp, _, _, hb, _⟩ := h; exact hb.lt
theorem IsDisk.mono (h : IsDisk w base ok g x) (hok : ∀ k, ok k → ok' k) : IsDisk w base ok' g x := by
  obtain ⟨vk, vs, vp, h1, h2, hb, h3, h4, h5⟩ := h
  exact ⟨vk, vs, vp, hok _ h1, h2, hb, Kd.R_mono h3 hok, Kd.R_mono h4 (fun k hk => ⟨hok k hk.1, hk.2⟩), Kd.R_mono h5 (fun k hk => ⟨hok k hk.1, hk.2⟩)⟩
/-- What turns none of its blocks leaves a disk as it is. -/
theorem IsDisk.keep (h : IsDisk w base ok g x) (ho : Only w w' S) (hs : ∀ k, ok k → ¬ S k) : IsDisk w' base ok g x := by
  obtain ⟨vk, vs, vp, h1, h2, hb, h3, h4, h5⟩ := h
  exact ⟨vk, vs, vp, h1, h2, hb.keep ho (hs _ h1), Kd.R_step h3 (fun k hk hlt => ho.block k hlt (hs k hk)), Kd.R_step h4 (fun k hk hlt => ho.block k hlt (hs k hk.1)), Kd.R_step h5 (fun k hk hlt => ho.block k hlt (hs k hk.1))⟩
/-- Its blocks are there, and from base on. -/
theorem IsDisk.bound (h : IsDisk w base ok g x) : IsDisk w base (fun k => ok k ∧ base ≤ k ∧ k < w.heap.size) g x := by
  obtain ⟨vk, vs, vp, h1, h2, hb, h3, h4, h5⟩ := h
  refine ⟨vk, vs, vp, ⟨h1, h2, hb.lt⟩, h2, hb, Kd.R_mono (Kd.R_bound h3) (fun k hk => ⟨hk.1, hk.2.1, hk.2.2.1⟩), Kd.R_mono (Kd.R_bound h4) (fun k hk => ⟨⟨hk.1.1, hk.2.1, hk.2.2.1⟩, hk.1.2⟩), Kd.R_mono (Kd.R_bound h5) (fun k hk => ⟨⟨hk.1.1, hk.2.1, hk.2.2.1⟩, hk.1.2⟩)⟩
theorem IsDisk.lower {base' : Nat} (h : IsDisk w base ok g x) (hb : base' ≤ base) : IsDisk w base' ok g x := by
  obtain ⟨vk, vs, vp, h1, h2, hbk, h3, h4, h5⟩ := h
  exact ⟨vk, vs, vp, h1, Nat.le_trans hb h2, hbk, Kd.R_lower h3 hb, Kd.R_lower h4 hb, Kd.R_lower h5 hb⟩
end
end Go.Proofs.Ytochnokfcfmgnaa.Dk
