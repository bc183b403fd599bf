/- Who owns what: blocks by their owners' numbers; the plain side of DiskTears, DiskKeeps. -/
import Derived.Test.YtgiidddmhnnnjaaDisk12
namespace Go.Proofs.Ytgiidddmhnnnjaa.Dk
open Go.RowKit Go.Proofs.Ytgiidddmhnnnjaa.Mem Go.Proofs.YtgiidddmhnnnjaaW.PrintWords
set_option linter.unusedVariables false
set_option linter.unusedSimpArgs false
/-- Behind a step the blocks that are new (from S on) belong to j. -/
def upd (own : Nat → Nat) (S j : Nat) : Nat → Nat := fun k => if k < S then own k else j
section
variable {w w' : World} {base g n : Nat} {x : DV} {own : Nat → Nat} {i j : Nat} {S : Nat → Prop}
theorem IsDisk.own_old (h : IsDisk w base (fun k => own k = i) g x) (o : Only w w' S) (hs : ∀ k, own k = i → ¬ S k) (j : Nat) : IsDisk w' base (fun k => upd own w.heap.size j k = i) g x :=
  (h.bound.keep o (fun k hk => hs k hk.1)).mono (fun k hk => by unfold upd; rw [if_pos hk.2.2]; exact hk.1)
theorem IsDisk.own_mod {B : Nat} (h : IsDisk w' base (fun k => own k = j ∨ B ≤ k) g x) : IsDisk w' base (fun k => upd own B j k = j) g x :=
  h.mono (fun k hk => by
    unfold upd
    split
    · rcases hk with hk | hk
      · exact hk
      · omega
    · rfl)
theorem IsDisk.own_new {B : Nat} (h : IsDisk w' B (fun _ => True) g x) (hb : base ≤ B) (own : Nat → Nat) (j : Nat) : IsDisk w' base (fun k => upd own B j k = j) g x :=
  (h.bound.mono (fun k hk => by unfold upd; rw [if_neg (by omega)])).lower hb
variable {α : Type} {d : Kd α} {e : Nat} {v : Value} {xs : List α}
theorem R_own_old (h : d.R e w base (fun k => own k = i) v xs) (o : Only w w' S) (hs : ∀ k, own k = i → ¬ S k) (j : Nat) : d.R e w' base (fun k => upd own w.heap.size j k = i) v xs :=
  Kd.R_mono (Kd.R_step (Kd.R_bound h) (fun k hk hlt => o.block k hlt (hs k hk.1))) (fun k hk => by unfold upd; rw [if_pos hk.2.2.1]; exact hk.1)
theorem R_own_mod {B : Nat} (h : d.R e w' base (fun k => own k = j ∨ B ≤ k) v xs) : d.R e w' base (fun k => upd own B j k = j) v xs :=
  Kd.R_mono h (fun k hk => by
    unfold upd
    split
    · rcases hk with hk | hk
      · exact hk
      · omega
    · rfl)
theorem R_own_new {B : Nat} (h : d.R e w' B (fun _ => True) v xs) (hb : base ≤ B) (own : Nat → Nat) (j : Nat) : d.R e w' base (fun k => upd own B j k = j) v xs :=
  Kd.R_lower (Kd.R_mono (Kd.R_bound h) (fun k hk => by unfold upd; rw [if_neg (by omega)])) hb
end
/-- A row of one row. -/
theorem rows_one {α : Type} {W : World} {base q e : Nat} {d : Kd α} {ok : Nat → Prop} {v : Value} {xs : List α} (h : d.R q W base ok v xs) (hb : base ≤ W.heap.size) :
    (Kd.slice q d).R e (W.alloc (.cells #[v] e)) base (fun k => ok k ∨ W.heap.size ≤ k) (.slice (some ⟨W.heap.size, 0, none⟩) 1 1) [xs] := by
  refine ⟨fun k hk => .inr ?_, ?_⟩
  · have : W.heap.size = k := by simpa [Value.ownBlock] using hk
    omega
  · refine OwnRow.lit (ps := [xs]) (size := 1) (e := e) W base (inner := [v]) ⟨rfl, fun j p hj => ?_⟩ hb (by simp)
    match j, hj with
    | 0, hj =>
      simp at hj
      subst hj
      refine ⟨v, rfl, Kd.R_mono (Kd.R_alloc (Kd.R_bound h) _) (fun k hk => ⟨.inl hk.1, ?_⟩)⟩
      have := hk.2.2.1
      simp [Value.ownBlock]
      omega
/-! ### the plain side -/
def isW (o : OpV) : Prop := o.1 < 1 ∨ 5 < o.1
instance (o : OpV) : Decidable (isW o) := by unfold isW; exact inferInstance
/-- The disk behind the writes among the first j ops. -/
def putsN (x : DV) (n : Nat) (more : List OpV) : Nat → DV
  | 0 => x
  | j + 1 => match more[j]? with
    | some o => if isW o then (putsN x n more j).put n o else putsN x n more j
    | none => putsN x n more j
/-- What was seen behind each. -/
def maysN (x : DV) (n : Nat) (more : List OpV) : Nat → List (List Int)
  | 0 => [x.seen]
  | j + 1 => match more[j]? with
    | some o => if isW o then maysN x n more j ++ [(putsN x n more (j + 1)).seen] else maysN x n more j
    | none => maysN x n more j
theorem putsN_w {x : DV} {n : Nat} {more : List OpV} {j : Nat} {o : OpV} (h : more[j]? = some o) (hw : isW o) : putsN x n more (j + 1) = (putsN x n more j).put n o := by
  rw [putsN, h]; exact if_pos hw
theorem putsN_n {x : DV} {n : Nat} {more : List OpV} {j : Nat} {o : OpV} (h : more[j]? = some o) (hw : ¬ isW o) : putsN x n more (j + 1) = putsN x n more j := by
  rw [putsN, h]; exact if_neg hw
theorem maysN_w {x : DV} {n : Nat} {more : List OpV} {j : Nat} {o : OpV} (h : more[j]? = some o) (hw : isW o) : maysN x n more (j + 1) = maysN x n more j ++ [(putsN x n more (j + 1)).seen] := by
  rw [maysN, h]; exact if_pos hw
theorem maysN_n {x : DV} {n : Nat} {more : List OpV} {j : Nat} {o : OpV} (h : more[j]? = some o) (hw : ¬ isW o) : maysN x n more (j + 1) = maysN x n more j := by
  rw [maysN, h]; exact if_neg hw
structure Tear (x0 x : DV) (n m : Nat) (may : List (List Int)) : Prop where
  good : Good x n
  life : x.life = -1
  plen : x.pend.length ≤ m
  mlen : may.length ≤ m + 1
  kept : x.kept = x0.kept
  k0 : x0.kept ∈ may
  all : ∀ s ∈ may, s.length = n * 32
  pend : ∀ p ∈ x.pend, ∃ s ∈ may, ∀ t, t < 32 → s[p.1.toNat * 32 + t]? = p.2[t]?
theorem splice_in {α : Type} (l c : List α) (o t : Nat) (h : o + c.length ≤ l.length) (ht : t < c.length) : (splice l o c)[o + t]? = c[t]? := by
  unfold splice
  rw [List.getElem?_append_right (by simp; omega), List.length_take, Nat.min_eq_left (by omega), Nat.add_sub_cancel_left, List.getElem?_append_left ht]
theorem splice_out {α : Type} (l c : List α) (o t : Nat) (h : o + c.length ≤ l.length) (ht : t < o ∨ o + c.length ≤ t) : (splice l o c)[t]? = l[t]? := by
  unfold splice
  rcases ht with ht | ht
  · rw [List.getElem?_append_left (by simp; omega), List.getElem?_take, if_pos ht]
  · rw [List.getElem?_append_right (by simp; omega), List.length_take, Nat.min_eq_left (by omega), List.getElem?_append_right (by omega), List.getElem?_drop]
    congr 1
    omega
theorem tear_ok {x0 : DV} {n : Nat} (hg : Good x0 n) (hl : x0.life = -1) (hp : x0.pend = []) (hk : x0.kept = x0.seen) (more : List OpV) (hs : ∀ o ∈ more, OpOk o) : ∀ j, Tear x0 (putsN x0 n more j) n j (maysN x0 n more j) := by
  intro j
  induction j with
  | zero => exact ⟨hg, hl, by show x0.pend.length ≤ 0; rw [hp]; exact Nat.le_refl _, by simp [maysN], rfl, by simp [maysN, hk], by simp [maysN, hg.seen], by intro p h; have h : p ∈ x0.pend := h; rw [hp] at h; cases h⟩
  | succ j ih =>
    cases he : more[j]? with
    | none =>
      have e1 : putsN x0 n more (j + 1) = putsN x0 n more j := by rw [putsN, he]
      have e2 : maysN x0 n more (j + 1) = maysN x0 n more j := by rw [maysN, he]
      rw [e1, e2]
      exact ⟨ih.good, ih.life, Nat.le_succ_of_le ih.plen, Nat.le_succ_of_le ih.mlen, ih.kept, ih.k0, ih.all, ih.pend⟩
    | some o =>
      by_cases hw : isW o
      · have ho := hs o (List.mem_of_getElem? he)
        rw [maysN_w he hw, putsN_w he hw]
        have hG := Grown.put (⟨ih.good, ih.life, ih.plen⟩ : Grown _ n j) ho
        refine ⟨hG.good, hG.life, hG.pend, by have := ih.mlen; simp; omega, ?_, List.mem_append_left _ ih.k0, ?_, ?_⟩
        · rw [← ih.kept]; unfold DV.put; split <;> rfl
        · intro s hs
          rcases List.mem_append.1 hs with h | h
          · exact ih.all s h
          · rw [List.mem_singleton.1 h]; exact hG.good.seen
        · intro p hp
          unfold DV.put at hp ⊢
          split at hp
          · rename_i hc
            rw [if_pos hc]
            obtain ⟨h1, h2, h3⟩ := hc
            rcases List.mem_append.1 (show p ∈ (putsN x0 n more j).pend ++ [(((o.2.1.toNat : Nat) : Int), bytesOf o)] from hp) with h | h
            · obtain ⟨s, hs, ht⟩ := ih.pend p h
              exact ⟨s, List.mem_append_left _ hs, ht⟩
            · obtain rfl := List.mem_singleton.1 h
              refine ⟨_, List.mem_append_right _ (List.mem_singleton_self _), fun t ht => ?_⟩
              show (splice (putsN x0 n more j).seen (o.2.1.toNat * 32) (bytesOf o))[(((o.2.1.toNat : Nat) : Int)).toNat * 32 + t]? = (bytesOf o)[t]?
              rw [Int.toNat_natCast]
              exact splice_in _ _ _ _ (by rw [ih.good.seen, h1]; omega) (by omega)
          · rename_i hc
            rw [if_neg hc]
            obtain ⟨s, hs, ht⟩ := ih.pend p hp
            exact ⟨s, List.mem_append_left _ hs, ht⟩
      · rw [maysN_n he hw, putsN_n he hw]
        exact ⟨ih.good, ih.life, Nat.le_succ_of_le ih.plen, Nat.le_succ_of_le ih.mlen, ih.kept, ih.k0, ih.all, ih.pend⟩
/-- Behind a crash each byte is one of those. -/
theorem tear_crash {x0 x : DV} {n m : Nat} {may : List (List Int)} (h : Tear x0 x n m may) (keep : List Bool) (torn cut : Int) (h0 : 0 ≤ cut) (h1 : cut ≤ 32) : ∀ j, ∀ k, k < n * 32 → ∃ s ∈ may, s[k]? = (crashN keep torn cut x.kept x.pend j)[k]? := by
  intro j
  induction j with
  | zero => intro k _; exact ⟨_, h.k0, by rw [← h.kept]; rfl⟩
  | succ j ih =>
    intro k hk
    cases hp : x.pend[j]? with
    | none => unfold crashN; rw [hp]; exact ih k hk
    | some p =>
      rw [crashN_succ hp]
      unfold crash1
      split
      · have hm := List.mem_of_getElem? hp
        obtain ⟨⟨q1, q2⟩, q3, q4⟩ := h.good.pend p hm
        have hl : (p.2.take (cutAt torn cut j)).length ≤ 32 := by rw [List.length_take]; omega
        have hcl := (crashN_good h.good keep torn cut h0 h1 j).1
        by_cases hin : p.1.toNat * 32 ≤ k ∧ k < p.1.toNat * 32 + (p.2.take (cutAt torn cut j)).length
        · obtain ⟨s, hs, ht⟩ := h.pend p hm
          refine ⟨s, hs, ?_⟩
          obtain ⟨t, rfl⟩ : ∃ t, k = p.1.toNat * 32 + t := ⟨k - p.1.toNat * 32, by omega⟩
          rw [splice_in _ _ _ _ (by rw [hcl]; omega) (by omega), ht t (by omega), List.getElem?_take, if_pos (by have := hin.2; rw [List.length_take] at this; omega)]
        · rw [splice_out _ _ _ _ (by rw [hcl]; omega) (by omega)]
          exact ih k hk
      · exact ih k hk
/-- A script handed in. -/
structure Script (w : World) (A : Option Addr) (c : Nat) (l : List OpV) : Prop where
  cells : kOp.C w A l.length l
  cap : l.length ≤ c
  ok : ∀ o ∈ l, OpOk o
  size : l.length * 88 ≤ 140737488351232
  each : ∀ o ∈ l, o.2.2.2.2.2.1.length ≤ 140737488351232 ∧ o.2.2.2.2.2.2.length ≤ 140737488351232
theorem grown_script (s : Int) (A : Option Addr) (c : Nat) (script : List OpV) (w : World) (h : Script w A c script) : Calls Try.prog 10 #[.int .i64 s, .slice A script.length c] w fun e w' => ∃ g, e = .returned (.pointer (some ⟨g, 0, none⟩)) ∧ IsDisk w' w.heap.size (fun _ => True) g (grownN (sectorsOf s) script script.length) ∧ Below w.heap.size w w' :=
  grown_any s A c script w (Lib.hid h.cells) h.cap (Lib.hid h.ok) (by have := h.size; omega) (Lib.hid h.each)
theorem sectorsOf_le (s : Int) : 1 ≤ sectorsOf s ∧ sectorsOf s ≤ 64 := by unfold sectorsOf; split <;> omega
theorem grown_good (s : Int) (script : List OpV) (h : ∀ o ∈ script, OpOk o) : Grown (grownN (sectorsOf s) script script.length) (sectorsOf s) script.length :=
  grownN_ok _ (sectorsOf_le s).1 (by have := (sectorsOf_le s).2; omega) script h _
/-- An op of a script, read in place, in whatever world behind. -/
theorem op_held {w : World} {A : Option Addr} {c : Nat} {l : List OpV} (h : Script w A c l) (k : Nat) (hk : k < l.length) : ∃ ad o1 o2 o3 o4 o5 oB oK AB cB AK cK, A = some ad ∧ l[k]? = some (o1, o2, o3, o4, o5, oB, oK) ∧
    (∀ W, Below w.heap.size w W → W.cell? (ad.add (k * 7)) = some (.int .i64 o1) ∧ W.cell? ⟨(ad.add (k * 7)).block, (ad.add (k * 7)).off + 1, none⟩ = some (.int .i64 o2) ∧ W.cell? ⟨(ad.add (k * 7)).block, (ad.add (k * 7)).off + 2, none⟩ = some (.int .i64 o3) ∧ W.cell? ⟨(ad.add (k * 7)).block, (ad.add (k * 7)).off + 3, none⟩ = some (.int .i64 o4) ∧ W.cell? ⟨(ad.add (k * 7)).block, (ad.add (k * 7)).off + 4, none⟩ = some (.bool o5) ∧ W.cell? ⟨(ad.add (k * 7)).block, (ad.add (k * 7)).off + 5, none⟩ = some (.slice AB oB.length cB) ∧ W.cell? ⟨(ad.add (k * 7)).block, (ad.add (k * 7)).off + 6, none⟩ = some (.slice AK oK.length cK)) ∧
    oB.length ≤ cB ∧ (∀ W, Below w.heap.size w W → (Kd.int .u8).C W AB oB.length oB) ∧ oK.length ≤ cK ∧ (∀ W, Below w.heap.size w W → Kd.bool.C W AK oK.length oK) ∧ oB.length ≤ 140737488351232 ∧ oK.length ≤ 140737488351232 ∧ OpOk (o1, o2, o3, o4, o5, oB, oK) := by
  obtain ⟨ad, o, AB, cB, AK, cK, hA, e1, e2, e3, e4, e5, e6⟩ := op_at h.cells k hk
  have hm := List.mem_of_getElem? e1
  obtain ⟨o1, o2, o3, o4, o5, oB, oK⟩ := o
  refine ⟨ad, o1, o2, o3, o4, o5, oB, oK, AB, cB, AK, cK, hA, e1, fun W hb => ?_, e3, fun W hb => Kd.C_below e4 hb, e5, fun W hb => Kd.C_below e6 hb, (h.each _ hm).1, (h.each _ hm).2, h.ok _ hm⟩
  have cw : ∀ j v, [Value.int .i64 o1, .int .i64 o2, .int .i64 o3, .int .i64 o4, .bool o5, .slice AB oB.length cB, .slice AK oK.length cK][j]? = some v → W.cell? (ad.add (k * 7 + j)) = some v := fun j v hv => (hb.cell (World.block_lt_of_cell? _ _ (e2 j v hv))).trans (e2 j v hv)
  have x1 := cw 1 _ rfl
  rw [add_field ad (k * 7) 1 (by decide)] at x1
  have x2 := cw 2 _ rfl
  rw [add_field ad (k * 7) 2 (by decide)] at x2
  have x3 := cw 3 _ rfl
  rw [add_field ad (k * 7) 3 (by decide)] at x3
  have x4 := cw 4 _ rfl
  rw [add_field ad (k * 7) 4 (by decide)] at x4
  have x5 := cw 5 _ rfl
  rw [add_field ad (k * 7) 5 (by decide)] at x5
  have x6 := cw 6 _ rfl
  rw [add_field ad (k * 7) 6 (by decide)] at x6
  exact ⟨cw 0 _ rfl, x1, x2, x3, x4, x5, x6⟩
end Go.Proofs.Ytgiidddmhnnnjaa.Dk
