/- Texts merged: a section each. -/
import Derived.Test.YtochnokfcfmgnaaMG
import Derived.BigQuiet
import Derived.StillTailTactics
import Derived.Deep.CutRange
section
/- Regions that draw their order, whose head only reads and whose tail is in a forced order: the head walked by the cheap quiet walk. -/
namespace Go.Proofs.Ytochnokfcfmgnaa.St
open Go
set_option linter.unusedVariables false
/-- Operations that yield a value and enter nothing. -/
def plainOp (o : Oper) : Bool := match o.op with
  | .move _ | .pick _ _ _ | .indexAddr _ _ _ | .load _ _ | .binOp _ _ _ _ _ | .unOp _ _ _ | .convert _ _ _ => true
  | _ => false
theorem value_only {P : Program} {w w' : World} {nx : Next} (s : Sem Value) (h : Sem.run P (do pure (Next.value (← s)) : Sem Next) w = .ok nx w') : ∃ u, nx = .value u := by
  rw [Sem.run_bind] at h
  cases hs : s.run P w with
  | ok v w1 =>
    rw [hs] at h
    have h : Result.ok (Next.value v) w1 = Result.ok nx w' := h
    injection h with h _
    exact ⟨v, h.symm⟩
  | _ => rw [hs] at h; cases h
theorem plain_value {P : Program} {o : Oper} {ρ : Operand → Value} {w w' : World} {nx : Next} (hp : plainOp o = true) (h : (execOp ρ o).run P w = .ok nx w') : ∃ u, nx = .value u := by
  unfold plainOp at hp
  unfold execOp at h
  split at hp
  case h_1 x hx => rw [hx] at h; exact value_only (pure (ρ x)) h
  case h_2 c a b hx => rw [hx] at h; exact value_only (do pure (if ← asBool (ρ c) then ρ a else ρ b)) (by simpa using h)
  case h_3 hx => rw [hx] at h; exact value_only _ h
  case h_4 hx => rw [hx] at h; exact value_only _ h
  case h_5 hx => rw [hx] at h; exact value_only _ h
  case h_6 hx => rw [hx] at h; exact value_only _ h
  case h_7 hx => rw [hx] at h; exact value_only _ h
  case h_8 => cases hp
theorem still_of_quiet {P : Program} {ops : Array Oper} {w : World} {Q : Act → Prop} : ∀ (l : List Oper) (a : Act), l.all plainOp = true → wpQuiet P ops (fun w' => ∃ n, w' = w.drewN n) Q l a → wpStill P ops w Q l a
  | [], a, _, h => h
  | o :: r, a, hp, h => by
    rw [List.all_cons, Bool.and_eq_true] at hp
    unfold wpQuiet at h
    unfold wpStill
    split
    · rename_i hw
      rw [if_pos hw] at h
      obtain ⟨v, h1, h2⟩ := h
      have h3 := h1 w ⟨0, rfl⟩
      have h4 := still_of_quiet r _ hp.2 h2
      unfold Oper.quietAt at h3
      unfold Oper.still
      cases hr : (execOp a.eval o).run P w with
      | ok nx w' =>
        rw [hr] at h3
        obtain ⟨u, rfl⟩ := plain_value hp.1 hr
        obtain ⟨e1, e2⟩ := h3
        subst e1 e2
        exact ⟨rfl, h4⟩
      | _ => rw [hr] at h3; exact h3.elim
    · rename_i hw
      rw [if_neg hw] at h
      exact still_of_quiet r _ hp.2 h
theorem wp_region_quiet_tail {P : Program} {id : Nat} {Q : Exit → Act → World → Prop} {a : Act} {w : World} {l : List Oper} (n : Nat) (hm : P.follows .mixedOrders = true) (hB : Region.lexTailB .any l.toArray n = true) (hp : (l.take n).all plainOp = true)
    (h : wpQuiet P l.toArray (fun w' => ∃ n, w' = w.drew.drewN n) (fun a' => wpList P l.toArray Q (l.drop n) a' w.drew) (l.take n) a) : (Code.region id l.toArray true).wp P Q a w :=
  wp_region_still_tail n hm hB (still_of_quiet _ _ hp h)
end Go.Proofs.Ytochnokfcfmgnaa.St
end

section
/- Seat F: a root is loaded, walked. -/
namespace Go.Proofs.Ytochnokfcfmgnaa.St
open Go Go.RowKit Go.Proofs.Ytochnokfcfmgnaa.Mem Go.Proofs.YtochnokfcfmgnaaW.PrintWords Go.Proofs.Ytochnokfcfmgnaa.Dk Go.Maps Go.ChangeMaps Go.Proofs.Ytochnokfcfmgnaa.Sh Go.Proofs.Ytochnokfcfmgnaa.Sp Go.Proofs.Ytochnokfcfmgnaa.Pg
set_option linter.unusedVariables false
set_option linter.unusedSimpArgs false
set_option maxRecDepth 100000
set_option maxHeartbeats 16000000
theorem wrapI {x : Int} (h0 : -1000000 ≤ x) (h1 : x ≤ 1000000) : IntKind.i64.wrap x = x := by
  simp [IntKind.wrap, IntKind.bits, IntKind.signed]
  omega
/-- What a load says in the end. -/
def LdQ (w : World) (own : Nat → Nat) (base g : Nat) (o : Option SV) (e : Ending) (w' : World) : Prop :=
  Below w.heap.size w w' ∧ match o with
    | none => e = .returned (.pointer none)
    | some S => ∃ s own', e = .returned (.pointer (some ⟨s, 0, none⟩)) ∧ (∀ k, k < w.heap.size → own' k = if own k = 1 then 1 else 0) ∧ St w' own' base g s S
/-- The new store, with a map and without one. -/
structure Ld0 (w W : World) (g bk s : Nat) (rt ep : Int) : Prop where
  below : Below w.heap.size w W
  lk : w.heap.size ≤ bk
  ls : w.heap.size ≤ s
  bs : Blk W s 76 [.pointer (some ⟨g, 0, none⟩), .int .i64 rt, .int .u64 ep, .slice none 0 0, .map (some bk), .map none, .bool false]
  mb : W.heap[bk]? = some (.map #[] 0)
theorem Ld0.a {w w3 : World} (h : Below w.heap.size w w3) (g : Nat) (rt ep : Int) : Ld0 w ((w3.alloc (.map #[] 0)).alloc (.cells #[.pointer (some ⟨g, 0, none⟩), .int .i64 rt, .int .u64 ep, .slice none 0 0, .map (some w3.heap.size), .map none, .bool false] 76)) g w3.heap.size (w3.heap.size + 1) rt ep := by
  have hz := h.size
  refine ⟨(((Only.of_below h (fun _ => False)).alloc _).alloc _).below_all, hz, by omega, ?_, ?_⟩
  · have h := Blk.new (w3.alloc (.map #[] 0)) 76 [.pointer (some ⟨g, 0, none⟩), .int .i64 rt, .int .u64 ep, .slice none 0 0, .map (some w3.heap.size), .map none, .bool false]
    simpa using h
  · exact (Below.heap_alloc _ _ _ (by simp)).trans (MapKept.heap_alloc w3 (.map #[] 0)).1
theorem Ld0.b {w w3 : World} (h : Below (w.alloc (.map #[] 0)).heap.size (w.alloc (.map #[] 0)) w3) (g : Nat) (rt ep : Int) : Ld0 w (w3.alloc (.cells #[.pointer (some ⟨g, 0, none⟩), .int .i64 rt, .int .u64 ep, .slice none 0 0, .map (some w.heap.size), .map none, .bool false] 76)) g w.heap.size w3.heap.size rt ep := by
  have hz := h.size
  rw [World.size_alloc] at hz
  have B0 : Below w.heap.size w w3 := (((Only.refl w (fun _ => False)).alloc (.map #[] 0)).step (Only.of_below h (fun _ => False)) (fun _ _ h => h)).below_all
  refine ⟨((Only.of_below B0 (fun _ => False)).alloc _).below_all, Nat.le_refl _, by omega, Blk.new w3 76 _, ?_⟩
  exact (Below.heap_alloc _ _ _ (by omega)).trans ((h.block _ (by simp)).trans (MapKept.heap_alloc w (.map #[] 0)).1)
/-- A store that is being loaded, in memory. -/
structure Ld (w0 W : World) (own : Nat → Nat) (g c2 c8 s bk bt : Nat) (rt ep : Int) (tv : Value) (tk : List Int) (f : PM) : Prop where
  below : Below w0.heap.size w0 W
  lo : ∀ k, own k ≠ 0 → w0.heap.size ≤ k
  b2 : Blk W c2 24 [.pointer (some ⟨g, 0, none⟩)]
  b8 : Blk W c8 116 [.map (some bt)]
  bs : Blk W s 76 [.pointer (some ⟨g, 0, none⟩), .int .i64 rt, .int .u64 ep, tv, .map (some bk), .map none, .bool false]
  mt : MU W bt tk
  mb : MapAt W (fun k => own k = 2) bk f
  o2 : own c2 = 6
  o8 : own c8 = 6
  os : own s = 3
  ot : own bt = 5
  ob : own bk = 4
section
variable {w0 W W' : World} {own : Nat → Nat} {g c2 c8 s bk bt : Nat} {rt ep : Int} {tv : Value} {tk : List Int} {f : PM}
theorem Ld.relab (h : Ld w0 W own g c2 c8 s bk bt rt ep tv tk f) (φ : Nat → Nat) (h0 : φ 0 = 0) (h2 : φ 2 = 2) (h3 : φ 3 = 3) (h4 : φ 4 = 4) (h5 : φ 5 = 5) (h6 : φ 6 = 6) : Ld w0 W (fun k => φ (own k)) g c2 c8 s bk bt rt ep tv tk f :=
  ⟨h.below, fun k hk => h.lo k (fun e => hk (by show φ (own k) = 0; rw [e, h0])), h.b2, h.b8, h.bs, h.mt, h.mb.mono (fun b _ hb => by show φ (own b) = 2; rw [hb, h2]), by show φ _ = 6; rw [h.o2, h6], by show φ _ = 6; rw [h.o8, h6], by show φ _ = 3; rw [h.os, h3], by show φ _ = 5; rw [h.ot, h5], by show φ _ = 4; rw [h.ob, h4]⟩
theorem Ld.gen (h : Ld w0 W own g c2 c8 s bk bt rt ep tv tk f) {T : Nat → Prop} (ho : Only W W' T) (hT : ∀ k, own k = 6 → ¬ T k) (hw : ∀ k, T k → w0.heap.size ≤ k) (j : Nat) {tv' : Value} {tk' : List Int} {f' : PM} (hs' : Blk W' s 76 [.pointer (some ⟨g, 0, none⟩), .int .i64 rt, .int .u64 ep, tv', .map (some bk), .map none, .bool false]) (hM' : MU W' bt tk') (hm' : MapAt W' (fun k => own k = 2 ∧ k < W.heap.size) bk f') : Ld w0 W' (upd own W.heap.size j) g c2 c8 s bk bt rt ep tv' tk' f' := by
  have hz := h.below.size
  refine ⟨((Only.of_below h.below (fun k => w0.heap.size ≤ k)).step ho (fun k _ h => hw k h)).below (Nat.le_refl _) (fun k hk h => by omega), fun k hk => ?_, h.b2.keep ho (hT _ h.o2), h.b8.keep ho (hT _ h.o8), hs', hM', hm'.mono (fun b _ hb => by rw [upd_lt hb.2]; exact hb.1), by rw [upd_lt h.b2.lt]; exact h.o2, by rw [upd_lt h.b8.lt]; exact h.o8, by rw [upd_lt h.bs.lt]; exact h.os, by rw [upd_lt h.mt.lt]; exact h.ot, by rw [upd_lt h.mb.lt]; exact h.ob⟩
  by_cases hk2 : k < W.heap.size
  · rw [upd_lt hk2] at hk; exact h.lo k hk
  · omega
theorem MapAt.old {ok : Nat → Prop} {b : Nat} {T : Nat → Prop} (h : MapAt W ok b f) (ho : Only W W' T) (hT : ∀ k, ok k → ¬ T k) (hb : ¬ T b) : MapAt W' (fun k => ok k ∧ k < W.heap.size) b f :=
  (h.mono (ok' := fun k => ok k ∧ k < W.heap.size) (fun b hb h => ⟨h, hb⟩)).keep ho (fun b hb => hT b hb.1) hb
theorem Ld.keep (h : Ld w0 W own g c2 c8 s bk bt rt ep tv tk f) {T : Nat → Prop} (ho : Only W W' T) (hT : ∀ k, own k = 2 ∨ own k = 3 ∨ own k = 4 ∨ own k = 5 ∨ own k = 6 → ¬ T k) (hw : ∀ k, T k → w0.heap.size ≤ k) (j : Nat) : Ld w0 W' (upd own W.heap.size j) g c2 c8 s bk bt rt ep tv tk f :=
  h.gen ho (fun k hk => hT k (by simp [hk])) hw j (h.bs.keep ho (hT s (by simp [h.os]))) (h.mt.step ho (hT bt (by simp [h.ot]))) (h.mb.old ho (fun k hk => hT k (by simp [hk])) (hT bk (by simp [h.ob])))
theorem Ld.low (h : Ld w0 W own g c2 c8 s bk bt rt ep tv tk f) (hb : Below W.heap.size W W') (j : Nat) : Ld w0 W' (upd own W.heap.size j) g c2 c8 s bk bt rt ep tv tk f :=
  h.keep (Only.of_below hb (fun _ => False)) (fun _ _ h => h) (fun _ h => h.elim) j
theorem Ld.take (h : Ld w0 W own g c2 c8 s bk bt rt ep tv tk f) (ho : Only W W' (fun k => k = bt)) {tk' : List Int} (hM : MU W' bt tk') (j : Nat) : Ld w0 W' (upd own W.heap.size j) g c2 c8 s bk bt rt ep tv tk' f := by
  have ot := h.ot
  exact h.gen ho (fun k hk e => by rw [e, ot] at hk; cases hk) (fun k e => by rw [e]; exact h.lo bt (by rw [ot]; decide)) j (h.bs.keep ho (fun e => by have := h.os; rw [e, ot] at this; cases this)) hM (h.mb.old ho (fun k hk e => by rw [e, ot] at hk; cases hk) (fun e => by have := h.ob; rw [e, ot] at this; cases this))
theorem Ld.turn (h : Ld w0 W own g c2 c8 s bk bt rt ep tv tk f) (ho : Only W W' (fun k => k = s)) {tv' : Value} (hs' : Blk W' s 76 [.pointer (some ⟨g, 0, none⟩), .int .i64 rt, .int .u64 ep, tv', .map (some bk), .map none, .bool false]) (j : Nat) : Ld w0 W' (upd own W.heap.size j) g c2 c8 s bk bt rt ep tv' tk f := by
  have os := h.os
  exact h.gen ho (fun k hk e => by rw [e, os] at hk; cases hk) (fun k e => by rw [e]; exact h.lo s (by rw [os]; decide)) j hs' (h.mt.step ho (fun e => by have := h.ot; rw [e, os] at this; cases this)) (h.mb.old ho (fun k hk e => by rw [e, os] at hk; cases hk) (fun e => by have := h.ob; rw [e, os] at this; cases this))
theorem Ld.put (h : Ld w0 W own g c2 c8 s bk bt rt ep tv tk f) (ho : Only W W' (fun k => k = bk)) {f' : PM} (hm : MapAt W' (fun k => own k = 2 ∧ k < W.heap.size) bk f') (j : Nat) : Ld w0 W' (upd own W.heap.size j) g c2 c8 s bk bt rt ep tv tk f' := by
  have ob := h.ob
  exact h.gen ho (fun k hk e => by rw [e, ob] at hk; cases hk) (fun k e => by rw [e]; exact h.lo bk (by rw [ob]; decide)) j (h.bs.keep ho (fun e => by have := h.os; rw [e, ob] at this; cases this)) (h.mt.step ho (fun e => by have := h.ot; rw [e, ob] at this; cases this)) hm
end
theorem MapAt.turnOk {w w' : World} {ok ok' : Nat → Prop} {bn : Nat} {m : Int → Option Value} {f : PM} (hdom : ∀ i : Int, (m i).isSome = true → 0 ≤ i ∧ i < ((728 : Nat) : Int)) (hat : ∀ i : Nat, PgAt w ok (m (i : Int)) (f i)) (ho : Only w w' (fun k => k = bn)) (hok : ∀ k, ok k → k ≠ bn) (hmo : ∀ b, b < w.heap.size → ok b → ok' b)
    (q : Nat) (hq : q < 728) (o : Option Value) (p : Option (Nat × List Int)) (hm : Mp w' bn (fun x => if x = (q : Int) then o else m x)) (hp : PgAt w' ok' o p) : MapAt w' ok' bn (fun j => if j = q then p else f j) := by
  refine ⟨_, hm, fun i hi => ?_, fun i => ?_⟩
  · by_cases e : i = (q : Int)
    · omega
    · exact hdom i (by have : (if i = (q : Int) then o else m i) = m i := if_neg e
                       rw [this] at hi; exact hi)
  · show PgAt w' ok' (if (i : Int) = (q : Int) then o else m (i : Int)) (if i = q then p else f i)
    by_cases e : i = q
    · subst e
      rw [if_pos rfl, if_pos rfl]
      exact hp
    · have e2 : ¬ (i : Int) = (q : Int) := by omega
      rw [if_neg e2, if_neg e]
      exact (((hat i).mono (ok' := fun b => ok b ∧ b < w.heap.size) (fun b hb h => ⟨h, hb⟩)).keep ho (fun b hb => hok b hb.1)).mono (fun b _ hb => hmo b hb.2 hb.1)
/-- A row of the load's own, labelled. -/
def Lrow (w0 W : World) (own : Nat → Nat) (j : Nat) (k : IntKind) (e : TypeId) (v : Value) (xs : List Int) : Prop := (Kd.int k).R e W w0.heap.size (fun b => own b = j) v xs
theorem Lrow.old {w0 W W' : World} {own : Nat → Nat} {j : Nat} {k : IntKind} {e : TypeId} {v : Value} {xs : List Int} (h : Lrow w0 W own j k e v xs) {T : Nat → Prop} (ho : Only W W' T) (hT : ∀ b, own b = j → ¬ T b) (i : Nat) : Lrow w0 W' (upd own W.heap.size i) j k e v xs :=
  Kd.R_mono (Kd.R_step (Kd.R_bound h) (fun k hk hlt => ho.block k hlt (hT k hk.1))) (fun k hk => by rw [upd_lt hk.2.2.1]; exact hk.1)
theorem Lrow.low {w0 W W' : World} {own : Nat → Nat} {j : Nat} {k : IntKind} {e : TypeId} {v : Value} {xs : List Int} (h : Lrow w0 W own j k e v xs) (hb : Below W.heap.size W W') (i : Nat) : Lrow w0 W' (upd own W.heap.size i) j k e v xs := h.old (Only.of_below hb (fun _ => False)) (fun _ _ h => h) i
theorem Lrow.mod {w0 W' : World} {own : Nat → Nat} {j B : Nat} {k : IntKind} {e : TypeId} {v : Value} {xs : List Int} (h : (Kd.int k).R e W' w0.heap.size (fun b => own b = j ∨ B ≤ b) v xs) : Lrow w0 W' (upd own B j) j k e v xs :=
  Kd.R_mono h (fun k hk => by
    unfold upd
    split
    · rcases hk with hk | hk
      · exact hk
      · omega
    · rfl)
theorem Lrow.nil (w0 W : World) (own : Nat → Nat) (j : Nat) (k : IntKind) (e : TypeId) : Lrow w0 W own j k e (.slice none 0 0) [] := Kd.R_nil _ _ _ _ _
/-- What lies ahead of the first table. -/
def own0 (c2 c8 s bk bt : Nat) : Nat → Nat := fun k => if k = c2 then 6 else if k = c8 then 6 else if k = s then 3 else if k = bt then 5 else if k = bk then 4 else 0
/-- Between two tables. -/
structure LI1 (x : DV) (c : Nat) (T0 : Option (List Int × List Int)) (w W : World) (own : Nat → Nat) (g c2 c8 s bk bt : Nat) (rt ep : Int) (tv v10 : Value) (tabs table : List Int) (next : Int) (m : Nat) : Prop where
  ld : Ld w W own g c2 c8 s bk bt rt ep tv (0 :: 1 :: tabs) (fun _ => none)
  rt : Lrow w W own 7 .i64 3 tv tabs
  rb : Lrow w W own 8 .u8 5 v10 table
  eq : tabL x.seen c m next tabs table = T0
  nod : (0 :: 1 :: tabs).Nodup
  rng : ∀ t ∈ tabs, 2 ≤ t ∧ t < (c : Int)
  tl : table.length ≤ 112 * tabs.length
  tb : ∀ y ∈ table, 0 ≤ y ∧ y < 256
  nx : 0 ≤ next ∧ next < 4294967296
  ml : m < 4294967296
theorem LI1.len {x : DV} {c : Nat} {T0 : Option (List Int × List Int)} {w W : World} {own : Nat → Nat} {g c2 c8 s bk bt : Nat} {rt ep : Int} {tv v10 : Value} {tabs table : List Int} {next : Int} {m : Nat} (h : LI1 x c T0 w W own g c2 c8 s bk bt rt ep tv v10 tabs table next m) : tabs.length ≤ c := by
  have h1 : tabs.Nodup := (List.nodup_cons.1 (List.nodup_cons.1 h.nod).2).2
  have h2 : (tabs.map Int.toNat).Nodup := List.pairwise_map.2 (h1.imp_of_mem fun {a b} ha hb hne e => hne (by have := h.rng a ha; have := h.rng b hb; omega))
  have := nodup_len h2 (b := List.range c) (fun y hy => by
    obtain ⟨t, ht, rfl⟩ := List.mem_map.1 hy
    have := h.rng t ht
    rw [List.mem_range]
    omega)
  simpa using this
/-- Between two pages. -/
structure LI2 (x : DV) (c : Nat) (E0 : Option PM) (w W : World) (own : Nat → Nat) (g c2 c8 s bk bt : Nat) (rt ep : Int) (tv : Value) (tabs tk : List Int) (f : PM) (gl : Nat) (l : List Int) (i : Nat) (prev : Option Int) : Prop where
  ld : Ld w W own g c2 c8 s bk bt rt ep tv tk f
  rt : Row W (fun b => own b = 2) .i64 tv tabs
  oa : 0 < l.length → own gl = 9 ∧ gl < W.heap.size
  cl : ∀ j (h : j < l.length), W.cell? ⟨gl, j, none⟩ = some (.int .u64 l[j])
  eq : entL x.seen c (l.drop i) prev tk f = E0
  pr : (i = 0 ∧ prev = none) ∨ (∃ j, i = j + 2 ∧ ∃ h : j < l.length, prev = some l[j])
  nod : tk.Nodup
  rng : ∀ t ∈ tk, 0 ≤ t ∧ t < (c : Int)
theorem LI2.le {x : DV} {c : Nat} {E0 : Option PM} {w W : World} {own : Nat → Nat} {g c2 c8 s bk bt : Nat} {rt ep : Int} {tv : Value} {tabs tk : List Int} {f : PM} {gl : Nat} {l : List Int} {i : Nat} {prev : Option Int} (h : LI2 x c E0 w W own g c2 c8 s bk bt rt ep tv tabs tk f gl l i prev) : tk.length ≤ c := by
  have h2 : (tk.map Int.toNat).Nodup := List.pairwise_map.2 (h.nod.imp_of_mem fun {a b} ha hb hne e => hne (by have := h.rng a ha; have := h.rng b hb; omega))
  have := nodup_len h2 (b := List.range c) (fun y hy => by
    obtain ⟨t, ht, rfl⟩ := List.mem_map.1 hy
    have := h.rng t ht
    rw [List.mem_range]
    omega)
  simpa using this
/-- Behind the test of a page. -/
structure Tst (c : Nat) (w wx : World) (own : Nat → Nat) (g c2 c8 s bk bt : Nat) (rt ep : Int) (tv : Value) (tabs tk : List Int) (f : PM) (gl : Nat) (l : List Int) (a q : Int) (prev : Option Int) : Prop where
  ld : Ld w wx own g c2 c8 s bk bt rt ep tv (tk ++ [q]) f
  rt : Row wx (fun b => own b = 2) .i64 tv tabs
  oa : 0 < l.length → own gl = 9 ∧ gl < wx.heap.size
  cl : ∀ j (h : j < l.length), wx.cell? ⟨gl, j, none⟩ = some (.int .u64 l[j])
  ok : ¬ (728 ≤ a ∨ (∃ q, prev = some q ∧ a ≤ q) ∨ q ∈ tk ∨ (c : Int) ≤ q)
def relab (k : Nat) : Nat := if k = 7 then 2 else k
theorem load_c {w : World} {own : Nat → Nat} {base g n : Nat} {x : DV} (hb : base ≤ w.heap.size) (hd : IsDisk w base (fun k => own k = 1) g x) (hlo : ∀ k, own k = 1 → base ≤ k) (hg : Dk.Good x n) (hlife : x.life = -1) (hn1 : 8 ≤ n) (hn : n ≤ 400) (p : Nat) (hp : p < n / 4) :
    Calls Try.prog 46 #[.pointer (some ⟨g, 0, none⟩), .int .i64 (p : Int)] w fun e w' => LdQ w own base g (loadV x (n / 4) p) e w' := by
  have HD := Lib.hid hd
  have HG := Lib.hid hg
  have HLF := Lib.hid hlife
  have HLO := Lib.hid hlo
  have hpm : (p : Int) ≤ 100 := by omega
  have hp0 : (0 : Int) ≤ (p : Int) := by omega
  have hck : chk x.life (4 * (p : Int)) (n : Int) = 0 := by unfold chk; rw [if_neg (by rw [hlife]; decide), if_neg (by omega)]
  have RD := Lib.hid (show ∀ W, Below w.heap.size w W → Calls Try.prog 44 #[.pointer (some ⟨g, 0, none⟩), .int .i64 (4 * (p : Int))] W fun e w' => ∃ v, e = .returned (.tuple #[v, .int .i64 0]) ∧ (Kd.int .u8).R 5 w' W.heap.size (fun _ => True) v (sec x.seen (4 * (p : Int))) ∧ Below W.heap.size W w' from fun W hW => by
    have h := dk_read (hd.keep (Only.of_below hW (fun _ => False)) (fun _ _ h => h)) hg hg.n2 (4 * (p : Int))
    rw [hck, if_pos rfl] at h
    exact h)
  have hrl := sec_length x.seen n (4 * (p : Int)) hg.seen (by omega) (by omega)
  have hrb : ∀ y ∈ sec x.seen (4 * (p : Int)), 0 ≤ y ∧ y < 256 := fun y hy => hg.bs y (List.mem_of_mem_drop (List.mem_of_mem_take hy))
  obtain ⟨r, hr⟩ : ∃ r, r = sec x.seen (4 * (p : Int)) := ⟨_, rfl⟩
  have HR := Lib.hid hr
  rw [← hr] at RD hrl hrb
  have HRL := Lib.hid hrl
  have HRB := Lib.hid hrb
  have BA := Lib.hid (((Only.refl w (fun _ => False)).alloc (.cells #[.pointer (some ⟨g, 0, none⟩)] 24)).below_all)
  have X2 := Lib.hid (Blk.new w 24 [.pointer (some ⟨g, 0, none⟩)])
  have c2 := X2.out.cell_at 0 _ rfl
  clear hd hg hlife hck hrl hrb hr hlo
  go_enter Try.func46, Try.ntmps46
  go_wp2_with (first
    | (go_at_call 44; refine (RD.out _ BA.out).mono ?_; rintro e w1 ⟨v1, rfl, r1, b1⟩; have R1 := Lib.hid r1; have B1 := Lib.hid b1; have Y2 := Lib.hid (X2.out.below b1 X2.out.lt); clear c2; have c2 := Y2.out.cell_at 0 _ rfl; clear r1 b1)
    | fail)
  generalize w.alloc (.cells #[.pointer (some ⟨g, 0, none⟩)] 24) = wA at *
  obtain ⟨gb, cb, jb, rfl, q1, -, q3, -, -, q6⟩ := R_open R1.out (by rw [HRL.out]; decide)
  rw [HRL.out] at q3 ⊢
  have B01 := Lib.hid (BA.out.trans (B1.out.mono BA.out.size))
  have N8 := Lib.hid (show ∀ m lo len cap : Nat, lo + len ≤ 32 → len ≤ 8 → len ≤ cap → Calls Try.prog 64 #[.slice (some ⟨gb, lo, none⟩) len cap] (w1.drewN m) fun e w' => e = .returned (.int .u64 (fldV r lo len)) ∧ ∃ k, w' = (w1.drewN m).drewN k from fun m lo len cap h1 h2 h3 => by
    have hl : ((r.drop lo).take len).length = len := by have := HRL.out; rw [List.length_take, List.length_drop]; omega
    have hC : (Kd.int .u8).C (w1.drewN m) (some ⟨gb, lo, none⟩) ((r.drop lo).take len).length ((r.drop lo).take len) := by
      have h := C_pre' (q6.drewN m) (show lo + len ≤ r.length by have := HRL.out; omega) (by have := HRL.out; omega)
      rw [hl]
      exact h
    have h := number_c (some ⟨gb, lo, none⟩) cap _ _ hC (by omega) (by omega) (fun y hy => HRB.out y (List.mem_of_mem_drop (List.mem_of_mem_take hy)))
    rw [hl] at h
    exact h)
  have Q3 := Lib.hid q3
  have Q1 := Lib.hid q1
  have Q6 := Lib.hid q6
  obtain ⟨a0, ha0⟩ : ∃ a, a = fldV r 0 8 := ⟨_, rfl⟩
  obtain ⟨a1, ha1⟩ : ∃ a, a = fldV r 24 8 := ⟨_, rfl⟩
  obtain ⟨a2, ha2⟩ : ∃ a, a = fldV r 16 8 := ⟨_, rfl⟩
  have N00 := Lib.hid (show ∀ m, Calls Try.prog 64 #[.slice (some ⟨gb, 0, none⟩) 8 cb] (w1.drewN m) fun e w' => e = .returned (.int .u64 a0) ∧ ∃ k, w' = (w1.drewN m).drewN k from fun m => by have h := N8.out m 0 8 cb (by omega) (by omega) (by omega); rw [← ha0] at h; exact h)
  have N24 := Lib.hid (show ∀ m, Calls Try.prog 64 #[.slice (some ⟨gb, 24, none⟩) 8 (cb - 24)] (w1.drewN m) fun e w' => e = .returned (.int .u64 a1) ∧ ∃ k, w' = (w1.drewN m).drewN k from fun m => by have h := N8.out m 24 8 (cb - 24) (by omega) (by omega) (by omega); rw [← ha1] at h; exact h)
  have N16 := Lib.hid (show ∀ m, Calls Try.prog 64 #[.slice (some ⟨gb, 16, none⟩) 8 (cb - 16)] (w1.drewN m) fun e w' => e = .returned (.int .u64 a2) ∧ ∃ k, w' = (w1.drewN m).drewN k from fun m => by have h := N8.out m 16 8 (cb - 16) (by omega) (by omega) (by omega); rw [← ha2] at h; exact h)
  have HA0 := Lib.hid ha0
  have HA1 := Lib.hid ha1
  have HA2 := Lib.hid ha2
  have hcb : (32 : Int) ≤ (cb : Int) := by omega
  have hcb8 : (8 : Int) ≤ (cb : Int) := by omega
  have hcb24 : (24 : Int) ≤ (cb : Int) := by omega
  have n24 : ¬ cb = 24 := by omega
  have n16 : ¬ cb = 16 := by omega
  have n12 : ¬ cb = 12 := by omega
  have n8 : ¬ cb = 8 := by omega
  clear q1 q3 q6 ha0 ha1 ha2 R1
  by_cases h1 : a0 = a1
  · have H1 := Lib.hid h1
    have e1 : (a0 != a1) = false := bne_eq_false_iff_eq.mpr h1
    have e2 : (a0 == a1) = true := beq_iff_eq.mpr h1
    clear h1
    by_cases h2 : a0 = 0
    · have e3 : (a0 == 0) = true := beq_iff_eq.mpr h2
      have e4 : (a0 != 0) = false := bne_eq_false_iff_eq.mpr h2
      have H2 := Lib.hid h2
      clear h2
      have HV := Lib.hid (show loadV x (n / 4) p = none by
        unfold loadV
        rw [← HR.out, if_neg]
        rintro ⟨h4, h5, h6⟩
        exact h5 (by rw [← HA0.out]; exact H2.out))
      go_quiet (first
        | (go_at_call 64; with_reducible refine Calls.quiet_of (N00.out _))
        | (go_at_call 64; with_reducible refine Calls.quiet_of (N24.out _))
        | (go_at_call 64; with_reducible refine Calls.quiet_of (N16.out _)))
      go_wp2_with fail
      go_ret
      refine ⟨?_, ?_⟩
      · exact (((Only.of_below B01.out (fun _ => False)).drewN _).below_all)
      · rw [HV.out]
        rfl
    · have e3 : (a0 == 0) = false := beq_eq_false_iff_ne.mpr h2
      have e4 : (a0 != 0) = true := bne_iff_ne.mpr h2
      by_cases h3 : a2 = 0
      · have e5 : (a2 == 0) = true := beq_iff_eq.mpr h3
        have e6 : (a2 != 0) = false := bne_eq_false_iff_eq.mpr h3
        have H3 := Lib.hid h3
        clear h3
        have RK := Lib.hid (show rootOk r from ⟨by rw [← HA0.out, ← HA1.out]; exact H1.out, by rw [← HA0.out]; exact h2, by rw [← HA2.out]; exact H3.out⟩)
        go_quiet (first
          | (go_at_call 64; with_reducible refine Calls.quiet_of (N00.out _))
          | (go_at_call 64; with_reducible refine Calls.quiet_of (N24.out _))
          | (go_at_call 64; with_reducible refine Calls.quiet_of (N16.out _)))
        clear e1 e2 e3 e4 e5 e6 N24 N16
        have NC := Lib.hid (show ∀ W, Below w1.heap.size w1 W → ∀ lo len cap : Nat, lo + len ≤ 32 → len ≤ 8 → len ≤ cap → Calls Try.prog 64 #[.slice (some ⟨gb, lo, none⟩) len cap] W fun e w' => e = .returned (.int .u64 (fldV r lo len)) ∧ ∃ k, w' = W.drewN k from fun W hW lo len cap h1 h2 h3 => by
          have hl : ((r.drop lo).take len).length = len := by have := HRL.out; rw [List.length_take, List.length_drop]; omega
          have hC : (Kd.int .u8).C W (some ⟨gb, lo, none⟩) ((r.drop lo).take len).length ((r.drop lo).take len) := by
            have h := C_pre' (Q6.out.below hW Q6.out.lt) (show lo + len ≤ r.length by have := HRL.out; omega) (by have := HRL.out; omega)
            rw [hl]
            exact h
          have h := number_c (some ⟨gb, lo, none⟩) cap _ _ hC (by omega) (by omega) (fun y hy => HRB.out y (List.mem_of_mem_drop (List.mem_of_mem_take hy)))
          rw [hl] at h
          exact h)
        have W1 := Lib.hid (((Only.refl w1 (fun _ => False)).drewN nq).below_all)
        have NC2 := Lib.hid (show ∀ W, Below (w1.drewN nq).heap.size (w1.drewN nq) W → ∀ lo len cap : Nat, lo + len ≤ 32 → len ≤ 8 → len ≤ cap → Calls Try.prog 64 #[.slice (some ⟨gb, lo, none⟩) len cap] W fun e w' => e = .returned (.int .u64 (fldV r lo len)) ∧ ∃ k, w' = W.drewN k from fun W hW => NC.out W (W1.out.trans (hW.mono (Nat.le_refl _))))
        have B02 := Lib.hid (B01.out.trans (W1.out.mono B01.out.size))
        have Z2 := Lib.hid (Y2.out.drewN nq)
        replace c2 := Z2.out.cell_at 0 _ rfl
        clear NC W1 N8 N00 B01 Y2 Q6 RD BA X2
        generalize w1.drewN nq = w2 at *
        clear B1
        have hmm := @run_makeMap Try.prog
        have BD1 := Lib.hid (((Only.refl w2 (fun _ => False)).drew).below_all)
        have BD2 := Lib.hid ((((Only.refl w2 (fun _ => False)).alloc (.map #[] 0)).drew).below_all)
        have BD3 := Lib.hid (((Only.refl (w2.alloc (.map #[] 0)) (fun _ => False)).drew).below_all)
        have ZD := Lib.hid (Z2.out.drew)
        have ZM := Lib.hid ((Z2.out.alloc (.map #[] 0)).drew)
        have CD := Lib.hid (show ∀ W, Blk W w.heap.size 24 [.pointer (some ⟨g, 0, none⟩)] → W.cell? ⟨w.heap.size, 0, none⟩ = some (.pointer (some ⟨g, 0, none⟩)) from fun W h => h.cell_at 0 _ rfl)
        have N00 := Lib.hid (show ∀ W, Below w2.heap.size w2 W → Calls Try.prog 64 #[.slice (some ⟨gb, 0, none⟩) 8 cb] W fun e w' => e = .returned (.int .u64 a0) ∧ ∃ k, w' = W.drewN k from fun W hW => by have h := NC2.out W hW 0 8 cb (by omega) (by omega) (by omega); rw [← HA0.out] at h; exact h)
        go_upto_region 4 with fail
        go_cut [7] from 52 to 59 (fun v7 wx => ∃ s bk, v7 = .pointer (some ⟨s, 0, none⟩) ∧ Aside1 (Ld0 w2 wx g bk s (p : Int) a0))
        case first =>
          go_region_held3 (fun w' => w'.cell? ⟨w.heap.size, 0, none⟩ = some (.pointer (some ⟨g, 0, none⟩))) (exact CD.out _ (by first | with_reducible exact ZD.out | with_reducible exact Z3.out | with_reducible exact ZM.out | with_reducible exact Z4.out | with_reducible exact Z3.out.alloc _ | with_reducible exact (Z3.out.alloc _).alloc _ | with_reducible exact Z4.out.alloc _)) (first
            | (go_at_call 64; refine (N00.out w2.drew BD1.out).mono ?_; rintro e w3 ⟨rfl, k3, hw3⟩; have B3 := Lib.hid (show Below w2.heap.size w2 w3 by rw [hw3]; exact (((Only.refl w2 (fun _ => False)).drew).drewN k3).below_all); have Z3 := Lib.hid (show Blk w3 w.heap.size 24 [.pointer (some ⟨g, 0, none⟩)] by rw [hw3]; exact ZD.out.drewN k3); clear hw3)
            | (go_at_call 64; refine (N00.out _ BD2.out).mono ?_; rintro e w3 ⟨rfl, k3, hw3⟩; have B4 := Lib.hid (show Below (w2.alloc (.map #[] 0)).heap.size (w2.alloc (.map #[] 0)) w3 by rw [hw3]; exact (((Only.refl (w2.alloc (.map #[] 0)) (fun _ => False)).drew).drewN k3).below_all); have Z4 := Lib.hid (show Blk w3 w.heap.size 24 [.pointer (some ⟨g, 0, none⟩)] by rw [hw3]; exact ZM.out.drewN k3); clear hw3)
            | fail)
          all_goals
            go_wp2_with fail
            go_meet
            case rel => first | exact ⟨_, _, rfl, ⟨Ld0.a B3.out g _ _⟩⟩ | exact ⟨_, _, rfl, ⟨Ld0.b B4.out g _ _⟩⟩
        case rest =>
          obtain ⟨s, bk, rfl, ⟨L0⟩⟩ := hcut
          have B03 := Lib.hid (B02.out.trans (L0.below.mono B02.out.size))
          have Z3 := Lib.hid (Z2.out.below L0.below Z2.out.lt)
          replace c2 := Z3.out.cell_at 0 _ rfl
          have LS := Lib.hid L0.bs
          have LM := Lib.hid L0.mb
          have LK := Lib.hid L0.lk
          have LL := Lib.hid L0.ls
          have LB := Lib.hid L0.below
          have M0 := MU.made (wc.alloc (.map #[] 0)) (MapKept.heap_alloc wc (.map #[] 0)).1
          obtain ⟨wd, hup0, M1, o0⟩ := M0.update (by decide) 0 (Ru.of (by decide) (by decide))
          obtain ⟨we, hup1, M2, o1⟩ := M1.update (by decide) 1 (Ru.of (by decide) (by decide))
          have M2H := Lib.hid M2
          have O2 := Lib.hid ((o0.step o1 (fun k _ h => h)))
          clear M0 M1 M2 o0 o1 L0 BD1 BD2 BD3 ZD ZM CD N00
          go_upto_region 8 with fail
          obtain ⟨w5, hw5⟩ : ∃ w5, w5 = we.alloc (.cells #[.map (some wc.heap.size)] 116) := ⟨_, rfl⟩
          have B5 : Below wc.heap.size wc w5 := by rw [hw5]; exact ((((Only.refl wc (fun k => k = wc.heap.size)).alloc (.map #[] 0)).step O2.out (fun k _ h => h)).alloc _).below (Nat.le_refl _) (fun k hk h => by omega)
          have hzz : wc.heap.size < we.heap.size := M2H.out.lt
          have hs5 : s < wc.heap.size := LS.out.lt
          have hk5 : bk < wc.heap.size := (Array.getElem?_eq_some_iff.1 LM.out).1
          have h25 : w.heap.size < w2.heap.size := Z2.out.lt
          have hll := LL.out
          have hlk := LK.out
          have hsk : s ≠ bk := fun e => by
            have h1 := LS.out
            unfold Blk at h1
            rw [e, LM.out] at h1
            cases h1
          have L5 : Ld w w5 (own0 w.heap.size we.heap.size s bk wc.heap.size) g w.heap.size we.heap.size s bk wc.heap.size (p : Int) a0 (.slice none 0 0) (0 :: 1 :: []) (fun _ => none) := by
            refine ⟨B03.out.trans (B5.mono B03.out.size), fun k hk => ?_, Z3.out.below B5 Z3.out.lt, by rw [hw5]; exact Blk.new we 116 _, LS.out.below B5 hs5, by rw [hw5]; exact M2H.out.alloc _, MapAt.empty ((B5.block bk hk5).trans LM.out) _, if_pos rfl, ?_, ?_, ?_, ?_⟩
            · unfold own0 at hk
              repeat' split at hk
              all_goals omega
            · unfold own0; rw [if_neg (by omega), if_pos rfl]
            · unfold own0; rw [if_neg (by omega), if_neg (by omega), if_pos rfl]
            · unfold own0; rw [if_neg (by omega), if_neg (by omega), if_neg (by omega), if_pos rfl]
            · unfold own0; rw [if_neg (by omega), if_neg (by omega), if_neg (fun e => hsk e.symm), if_neg (by omega), if_pos rfl]
          obtain ⟨c8, hc8⟩ : ∃ c8, c8 = we.heap.size := ⟨_, rfl⟩
          obtain ⟨bt, hbt⟩ : ∃ bt, bt = wc.heap.size := ⟨_, rfl⟩
          obtain ⟨aF, haF⟩ : ∃ a, a = fldV r 8 4 := ⟨_, rfl⟩
          obtain ⟨aN, haN⟩ : ∃ a, a = fldV r 12 4 := ⟨_, rfl⟩
          have BW := Lib.hid (LB.out.trans (B5.mono LB.out.size))
          have N08 := Lib.hid (show ∀ m, Calls Try.prog 64 #[.slice (some ⟨gb, 8, none⟩) 4 (cb - 8)] (w5.drewN m) fun e w' => e = .returned (.int .u64 aF) ∧ ∃ k, w' = (w5.drewN m).drewN k from fun m => by have h := NC2.out (w5.drewN m) (((Only.of_below BW.out (fun _ => False)).drewN m).below_all) 8 4 (cb - 8) (by omega) (by omega) (by have := Q3.out; omega); rw [← haF] at h; exact h)
          have N12 := Lib.hid (show ∀ m, Calls Try.prog 64 #[.slice (some ⟨gb, 12, none⟩) 4 (cb - 12)] (w5.drewN m) fun e w' => e = .returned (.int .u64 aN) ∧ ∃ k, w' = (w5.drewN m).drewN k from fun m => by have h := NC2.out (w5.drewN m) (((Only.of_below BW.out (fun _ => False)).drewN m).below_all) 12 4 (cb - 12) (by omega) (by omega) (by have := Q3.out; omega); rw [← haN] at h; exact h)
          have fr : ∀ lo, 0 ≤ fldV r lo 4 ∧ fldV r lo 4 < 4294967296 := fun lo => by
            have h1 := numV_range ((r.drop lo).take 4) (fun y hy => HRB.out y (List.mem_of_mem_drop (List.mem_of_mem_take hy)))
            have h2 : (256 : Nat) ^ ((r.drop lo).take 4).length ≤ 256 ^ 4 := Nat.pow_le_pow_right (by decide) (by rw [List.length_take]; omega)
            have h3 : (256 : Nat) ^ 4 = 4294967296 := by decide
            unfold fldV
            omega
          have FR8 := Lib.hid (fr 8)
          have FR12 := Lib.hid (fr 12)
          rw [← haF] at FR8
          rw [← haN] at FR12
          obtain ⟨T0, hT0⟩ : ∃ T0, T0 = tabL x.seen (n / 4) aN.toNat aF [] [] := ⟨_, rfl⟩
          have HTN := Lib.hid (show T0 = none → loadV x (n / 4) p = none from fun h => by
            unfold loadV
            rw [← HR.out, if_pos RK.out, ← haF, ← haN, ← hT0, h])
          have HTS := Lib.hid (show ∀ tabs table, T0 = some (tabs, table) → loadV x (n / 4) p = match entsL x.seen (n / 4) tabs table with
            | none => none
            | some f => some ⟨x, (p : Int), a0, tabs, f, f⟩ from fun tabs table h => by
            unfold loadV
            rw [← HR.out, if_pos RK.out, ← haF, ← haN, ← hT0, h, ← HA0.out]
            rfl)
          have HT0 := Lib.hid hT0
          rw [← hw5]
          rw [← hc8, ← hbt] at L5 ⊢
          have H5 := Lib.hid L5
          obtain ⟨own5, hown5⟩ : ∃ own5, own5 = own0 w.heap.size c8 s bk bt := ⟨_, rfl⟩
          rw [← hown5] at H5
          clear B5 L5 hw5 hzz hs5 hk5 h25 hll hlk hsk haF haN fr hT0 hc8 hbt hown5 NC2 BW LS LM LK LL LB M2H O2 Z3 B03 c2 Z2 B02 hup0 hup1 RK HA0 HA1 HA2 H1 H3 h2 hcb hcb8 hcb24 n24 n16 hmm HRB HRL Q1
          have hcb12 : (12 : Int) ≤ (cb : Int) := by have := Q3.out; omega
          have hcb16 : (16 : Int) ≤ (cb : Int) := by have := Q3.out; omega
          go_quiet (first
            | (go_at_call 64; with_reducible refine Calls.quiet_of (N08.out _))
            | (go_at_call 64; with_reducible refine Calls.quiet_of (N12.out _)))
          have H6 := Lib.hid (H5.out.low (((Only.refl w5 (fun _ => False)).drewN nq).below_all) 0)
          clear H5 N08 N12 n12 n8 Q3 hcb12 hcb16
          generalize w5.drewN nq = w6 at *
          obtain ⟨own6, hown6⟩ : ∃ own6, own6 = upd own5 w5.heap.size 0 := ⟨_, rfl⟩
          rw [← hown6] at H6
          clear hown6
          obtain ⟨N, hN⟩ : ∃ N : Nat, aN = (N : Int) := ⟨aN.toNat, by have := FR12.out; omega⟩
          subst hN
          have HT := Lib.hid (show tabL x.seen (n / 4) N aF [] [] = T0 from by rw [HT0.out]; rfl)
          clear HT0
          go_wp2_with fail
          go_loopg [10, 11, 12] N (fun mm v10 v11 v12 wr => ∃ (own' : Nat → Nat) (tabs table : List Int) (next : Int) (tv : Value), v11 = .int .u64 next ∧ v12 = .int .u64 (mm : Int) ∧ Aside1 (LI1 x (n / 4) T0 w wr own' g w.heap.size c8 s bk bt (p : Int) a0 tv v10 tabs table next mm))
          case atStart => exact ⟨own6, [], [], aF, .slice none 0 0, rfl, rfl, ⟨⟨H6.out, Lrow.nil _ _ _ _ _ _, Lrow.nil _ _ _ _ _ _, HT.out, by simp, (fun _ h => by cases h), by simp, (fun _ h => by cases h), FR8.out, by have := FR12.out; omega⟩⟩⟩
          case round =>
            obtain ⟨own', tabs, table, next, tv, rfl, rfl, ⟨hL⟩⟩ := hrel
            have LI := Lib.hid hL
            clear hL
            rcases Nat.eq_zero_or_pos gk with hg0 | hgp
            · subst hg0
              obtain ⟨c, hc⟩ : ∃ c, c = n / 4 := ⟨_, rfl⟩
              have HC := Lib.hid hc
              rw [← hc] at LI HTN HTS
              clear hc
              have hln := LI.out.len
              have hll := LI.out.tl
              have hcm : c ≤ 100 := by have := HC.out; omega
              obtain ⟨A6, k6, ev6⟩ := Kd.R_slice LI.out.rb
              subst ev6
              have htl : table.length ≤ 100000 := by omega
              have EQ := Lib.hid (show (if next = 0 then some (tabs, table) else none) = T0 from LI.out.eq)
              by_cases hx0 : next = 0
              · subst hx0
                have HT1 := Lib.hid (show T0 = some (tabs, table) from by have h := EQ.out; rw [if_pos rfl] at h; exact h.symm)
                have rr := Kd.R_reads' LI.out.rb
                have NU := Lib.hid (numbers_c A6 k6 table wr rr.2.2 rr.2.1 htl LI.out.tb)
                clear rr EQ
                cases hnv : numsV table.length table with
                | none =>
                  have HN := Lib.hid (show loadV x c p = none by rw [HTS.out _ _ HT1.out]; unfold entsL; rw [hnv])
                  rw [hnv] at NU
                  clear hnv
                  go_wp2_with (first
                  | (go_at_call 67; refine NU.out.mono ?_; rintro e w7 ⟨v7, rfl, r7, b7⟩; obtain ⟨A7, k7, ev7⟩ := Kd.R_slice r7; subst ev7; have R7 := Lib.hid r7; have B7 := Lib.hid b7; clear r7 b7)
                  | fail)
                  go_ret
                  exact ⟨LI.out.ld.below.trans (B7.out.mono LI.out.ld.below.size), by rw [← HC.out, HN.out]; rfl⟩
                | some l =>
                  have HV := Lib.hid (show loadV x c p = match (if l.length % 2 ≠ 0 then none else entL x.seen c l none (0 :: 1 :: tabs) (fun _ => none)) with | none => none | some f => some ⟨x, (p : Int), a0, tabs, f, f⟩ from by rw [HTS.out _ _ HT1.out]; unfold entsL; rw [hnv])
                  have NR := Lib.hid (numsV_range _ _ _ LI.out.tb hnv)
                  rw [hnv] at NU
                  have NU2 := Lib.hid (show Calls Try.prog 67 #[.slice A6 table.length k6] wr fun e w' => ∃ v, e = .returned (.tuple #[v, .bool true]) ∧ (Kd.int .u64).R 59 w' wr.heap.size (fun _ => True) v l ∧ Below wr.heap.size wr w' from NU.out)
                  clear NU hnv
                  have NU := NU2
                  clear NU2
                  by_cases hev : l.length % 2 = 0
                  · have hlm : l.length ≤ 11200 := by have := NR.out.2; omega
                    have hlm2 : (l.length : Int) ≤ 11200 := by omega
                    have hm2 : ((l.length : Int) % 2) = 0 := by omega
                    have hm3 : (l.length : Int).tmod 2 = 0 := by rw [Int.tmod_eq_emod_of_nonneg (by omega)]; exact hm2
                    obtain ⟨E0, hE0⟩ : ∃ E0, E0 = entL x.seen c l none (0 :: 1 :: tabs) (fun _ => none) := ⟨_, rfl⟩
                    have HEN := Lib.hid (show E0 = none → loadV x c p = none from fun h => by rw [HV.out, if_neg (by omega), ← hE0, h])
                    have HES := Lib.hid (show ∀ f, E0 = some f → loadV x c p = some ⟨x, (p : Int), a0, tabs, f, f⟩ from fun f h => by rw [HV.out, if_neg (by omega), ← hE0, h])
                    have HE0 := Lib.hid hE0.symm
                    clear hE0 HV HTN HTS
                    have HEV := Lib.hid hev
                    clear hev
                    go_wp2_with (first
                      | (go_at_call 67; refine NU.out.mono ?_; rintro e w7 ⟨v7, rfl, r7, b7⟩; obtain ⟨A7, k7, ev7⟩ := Kd.R_slice r7; subst ev7; have R7 := Lib.hid r7; have B7 := Lib.hid b7; clear r7 b7)
                      | fail)
                    have L7 := Lib.hid ((LI.out.ld.low B7.out 9).relab relab rfl rfl rfl rfl rfl rfl)
                    have RT7 := Lib.hid (show Row w7 (fun b => relab (upd own' wr.heap.size 9 b) = 2) .i64 tv tabs from (Row.of_R (LI.out.rt.low B7.out 9) (by omega)).mono (fun b _ hb => by show relab (upd own' wr.heap.size 9 b) = 2; rw [hb]; rfl))
                    obtain ⟨gl, HGL⟩ : ∃ gl, Hid (0 < l.length → A7 = some ⟨gl, 0, none⟩ ∧ relab (upd own' wr.heap.size 9 gl) = 9 ∧ gl < w7.heap.size ∧ ∀ j (h : j < l.length), w7.cell? ⟨gl, j, none⟩ = some (.int .u64 l[j])) := by
                      by_cases h0 : 0 < l.length
                      · obtain ⟨gl, kl, jl, ev, d1, -, d3, -, -, d6⟩ := R_open R7.out h0
                        injection ev with e1 _ _
                        refine ⟨gl, Lib.hid fun _ => ⟨e1, ?_, d6.lt, fun j hj => ?_⟩⟩
                        · rw [upd_ge d1]; rfl
                        · exact d6.cell_at j _ (by unfold icells; rw [List.getElem?_append_left (by simp; omega), List.getElem?_map, List.getElem?_eq_getElem hj]; rfl)
                      · exact ⟨0, Lib.hid fun h => absurd h h0⟩
                    obtain ⟨own7, hown7⟩ : ∃ own7, own7 = fun k => relab (upd own' wr.heap.size 9 k) := ⟨_, rfl⟩
                    have I7 := Lib.hid (show LI2 x c E0 w w7 own7 g w.heap.size c8 s bk bt (p : Int) a0 tv tabs (0 :: 1 :: tabs) (fun _ => none) gl l 0 none from by
                      rw [hown7]
                      exact ⟨L7.out, RT7.out, fun h => (HGL.out h).2.1 |> fun h1 => ⟨h1, (HGL.out h).2.2.1⟩, fun j h => (HGL.out (by omega)).2.2.2 j h, HE0.out, .inl ⟨rfl, rfl⟩, LI.out.nod, fun t ht => by
                        have hp2 := hp
                        have := HC.out
                        rcases List.mem_cons.1 ht with h | h
                        · omega
                        · rcases List.mem_cons.1 h with h | h
                          · omega
                          · have := LI.out.rng t h; omega⟩)
                    have HA7 := Lib.hid (show 0 < l.length → A7 = some ⟨gl, 0, none⟩ from fun h => (HGL.out h).1)
                    clear HE0 HGL L7 RT7 LI R7 B7 NU HT1 hm2 hm3 hown7 hln hll htl
                    go_loopg [18] (l.length / 2) (fun mm v18 wx => ∃ (i : Nat) (own'' : Nat → Nat) (tk : List Int) (f : PM) (prev : Option Int), v18 = .int .i64 (i : Int) ∧ Aside1 (i + 2 * mm = l.length) ∧ Aside1 (LI2 x c E0 w wx own'' g w.heap.size c8 s bk bt (p : Int) a0 tv tabs tk f gl l i prev))
                    case atStart => exact ⟨0, own7, _, _, none, rfl, ⟨by have := HEV.out; omega⟩, ⟨I7.out⟩⟩
                    case round =>
                      obtain ⟨i, own2, tk, f, prev, rfl, ⟨hmm2⟩, ⟨hI⟩⟩ := hrel
                      have I2 := Lib.hid hI
                      have HM2 := Lib.hid hmm2
                      have hle := hI.le
                      have HND := Lib.hid hI.nod
                      have HRG := Lib.hid hI.rng
                      clear hI hmm2 I7
                      by_cases hi : i < l.length
                      · obtain rfl := HA7.out (by omega)
                        have hi1 : i + 1 < l.length := by have := HM2.out; omega
                        have hii : (i : Int) < (l.length : Int) := by omega
                        have hii1 : (i : Int) + 1 < (l.length : Int) := by omega
                        have hi0 : (0 : Int) ≤ (i : Int) := by omega
                        have ca := I2.out.cl i hi
                        have cq := I2.out.cl (i + 1) hi1
                        have ra := NR.out.1 _ (List.getElem_mem hi)
                        have rq := NR.out.1 _ (List.getElem_mem hi1)
                        have EQ := Lib.hid (show entL x.seen c (l[i] :: l[i + 1] :: l.drop (i + 2)) prev tk f = E0 from by
                          have h := I2.out.eq
                          rw [List.drop_eq_getElem_cons hi, List.drop_eq_getElem_cons hi1] at h
                          exact h)
                        have HPV := Lib.hid (show ∀ h : i < l.length, (∃ q', prev = some q' ∧ l[i] ≤ q') → True from fun _ _ => trivial)
                        obtain ⟨a, ha⟩ : ∃ a, l[i] = a := ⟨_, rfl⟩
                        obtain ⟨q, hq⟩ : ∃ q, l[i + 1] = q := ⟨_, rfl⟩
                        rw [ha] at ca ra EQ
                        rw [hq] at cq rq EQ
                        clear HPV
                        have hqw : (0 : Int) ≤ q := rq.1
                        have BW2 := Lib.hid (show Below w.heap.size w wr.drew from ((Only.of_below I2.out.ld.below (fun _ => False)).drew).below_all)
                        have TK := Lib.hid (take_c (w := wr.drew) (HD.out.keep (Only.of_below BW2.out (fun _ => False)) (fun _ _ h => h)) HG.out I2.out.ld.mt.drew I2.out.ld.b8.drew I2.out.ld.b2.drew (by omega) q ⟨rq.1, by have := rq.2; omega⟩)
                        rw [← HC.out] at TK
                        have CL := Lib.hid (show ∀ W, Only wr W (fun k => k = bt) → ∀ j (h : j < l.length), W.cell? ⟨gl, j, none⟩ = some (.int .u64 l[j]) from fun W ho j h => (ho.cell (p := ⟨gl, j, none⟩) (I2.out.oa (by omega)).2 (fun e => by have h1 := (I2.out.oa (by omega)).1; have h2 := I2.out.ld.ot; have e : gl = bt := e; rw [e, h2] at h1; cases h1)).trans (I2.out.cl j h))
                        have OD2 := Lib.hid ((Only.refl wr (fun k => k = bt)).drew)
                        have TS := Lib.hid (show ∀ W, Only wr W (fun k => k = bt) → MU W bt (tk ++ [q]) → ¬ (728 ≤ a ∨ (∃ q, prev = some q ∧ a ≤ q) ∨ q ∈ tk ∨ (c : Int) ≤ q) → Tst c w W (upd own2 wr.heap.size 0) g w.heap.size c8 s bk bt (p : Int) a0 tv tabs tk f gl l a q prev from fun W ho hM hok => by
                          refine ⟨I2.out.ld.take ho hM 0, (I2.out.rt.mono (ok' := fun b => own2 b = 2 ∧ b < wr.heap.size) (fun b hb h => ⟨h, hb⟩)).keep ho (fun b hb e => by have h2 := I2.out.ld.ot; rw [e, h2] at hb; exact absurd hb.1 (by decide)) |>.mono (fun b _ hb => by rw [upd_lt hb.2]; exact hb.1), fun h => ?_, CL.out W ho, hok⟩
                          have h1 := I2.out.oa h
                          exact ⟨by rw [upd_lt h1.2]; exact h1.1, Nat.lt_of_lt_of_le h1.2 ho.size⟩)
                        go_upto_region 27 with fail
                        go_cut [165] from 129 to 206 (fun vv wx => (vv = .bool true ∧ Aside1 (E0 = none) ∧ Aside1 (Below w.heap.size w wx)) ∨ (vv = .bool false ∧ Aside1 (∃ own3, Tst c w wx own3 g w.heap.size c8 s bk bt (p : Int) a0 tv tabs tk f gl l a q prev)))
                        case first =>
                          by_cases hA : 728 ≤ a
                          · have tA : decide ((728 : Int) ≤ a) = true := decide_eq_true hA
                            have HN := Lib.hid (show E0 = none by have h := EQ.out; rw [entL, if_pos (.inl hA)] at h; exact h.symm)
                            go_quiet (fail)
                            go_wp2_with fail
                            go_meet
                            case rel => exact .inl ⟨rfl, ⟨HN.out⟩, ⟨(((Only.of_below I2.out.ld.below (fun _ => False)).drewN _).below_all)⟩⟩
                          · have tA : decide ((728 : Int) ≤ a) = false := decide_eq_false hA
                            rcases I2.out.pr with ⟨hi0', hpv⟩ | ⟨j, hij, hj, hpv⟩
                            · subst hi0'
                              have tB : decide ((0 : Int) < ((0 : Nat) : Int)) = false := by decide
                              have h0l : (0 : Int) < (l.length : Int) := by omega
                              have h1l : (1 : Int) < (l.length : Int) := by omega
                              have x0 : ∀ W, Only wr W (fun k => k = bt) → W.cell? ⟨gl, 0, none⟩ = some (.int .u64 a) ∧ W.cell? ⟨gl, 1, none⟩ = some (.int .u64 q) := fun W ho => ⟨by rw [CL.out W ho 0 hi, ha], by rw [CL.out W ho 1 hi1]; exact congrArg (fun y => some (Value.int .u64 y)) hq⟩
                              have X0 := Lib.hid x0
                              clear x0
                              by_cases hbad : q ∈ tk ∨ (c : Int) ≤ q
                              · have HN := Lib.hid (show E0 = none by have h := EQ.out; rw [entL, if_pos (.inr (.inr hbad))] at h; exact h.symm)
                                rw [decide_eq_false (fun h => h hbad)] at TK
                                clear hbad
                                refine wp_region_quiet_tail 28 (by kernel_rfl) (by kernel_rfl) (by kernel_rfl) ?_
                                simp only [List.take_succ_cons, List.take_zero, List.drop_succ_cons, List.drop_zero]
                                repeat (go_big_quiet_step (fail))
                                refine wpQuiet_nil ?_
                                change wpList _ _ _ _ _ wr.drew
                                go_wp2_with (first
                                  | (go_at_call 65; refine TK.out.mono ?_; rintro e w3 ⟨rfl, m3, o3⟩; have O3 := Lib.hid (OD2.out.step o3 (fun _ _ h => h)); clear m3 o3)
                                  | fail)
                                all_goals
                                  go_wp2_with fail
                                  go_meet
                                  case rel => exact .inl ⟨rfl, ⟨HN.out⟩, ⟨((Only.of_below I2.out.ld.below (fun k => k = bt)).step O3.out (fun _ _ h => h)).below (Nat.le_refl _) (fun k hk e => by have := I2.out.ld.lo bt (by rw [I2.out.ld.ot]; decide); omega)⟩⟩
                              · have HOK := Lib.hid (show ¬ (728 ≤ a ∨ (∃ q, prev = some q ∧ a ≤ q) ∨ q ∈ tk ∨ (c : Int) ≤ q) by
                                  rintro (h | ⟨q', h, h2⟩ | h)
                                  · exact hA h
                                  · rw [hpv] at h; cases h
                                  · exact hbad h)
                                rw [decide_eq_true hbad] at TK
                                clear hbad
                                refine wp_region_quiet_tail 28 (by kernel_rfl) (by kernel_rfl) (by kernel_rfl) ?_
                                simp only [List.take_succ_cons, List.take_zero, List.drop_succ_cons, List.drop_zero]
                                repeat (go_big_quiet_step (fail))
                                refine wpQuiet_nil ?_
                                change wpList _ _ _ _ _ wr.drew
                                go_wp2_with (first
                                  | (go_at_call 65; refine TK.out.mono ?_; rintro e w3 ⟨rfl, m3, o3⟩; have O3 := Lib.hid (OD2.out.step o3 (fun _ _ h => h)); have M3 := Lib.hid m3; clear m3 o3)
                                  | fail)
                                all_goals
                                  go_wp2_with fail
                                  go_meet
                                  case rel => exact .inr ⟨rfl, ⟨_, TS.out _ O3.out M3.out HOK.out⟩⟩
                            · subst hij
                              have tB : decide ((0 : Int) < ((j + 2 : Nat) : Int)) = true := decide_eq_true (by omega)
                              have cj := I2.out.cl j hj
                              have tB2 : decide ((0 : Int) < (j : Int) + 2) = true := decide_eq_true (by omega)
                              have hj0 : (0 : Int) ≤ (j : Int) := by omega
                              have hjl : (j : Int) < (l.length : Int) := by omega
                              have hj2 : (0 : Int) ≤ (j : Int) + 2 := by omega
                              have hj2l : (j : Int) + 2 < (l.length : Int) := by omega
                              have hjm : (j : Int) ≤ 11200 := by omega
                              obtain ⟨pv, hpvv⟩ : ∃ pv, l[j] = pv := ⟨_, rfl⟩
                              rw [hpvv] at cj hpv
                              by_cases hB : a ≤ pv
                              · have tC : decide (a ≤ pv) = true := decide_eq_true hB
                                have HN := Lib.hid (show E0 = none by have h := EQ.out; rw [entL, if_pos (.inr (.inl ⟨pv, hpv, hB⟩))] at h; exact h.symm)
                                go_quiet (fail)
                                go_wp2_with fail
                                go_meet
                                case rel => exact .inl ⟨rfl, ⟨HN.out⟩, ⟨(((Only.of_below I2.out.ld.below (fun _ => False)).drewN _).below_all)⟩⟩
                              · have tC : decide (a ≤ pv) = false := decide_eq_false hB
                                have x0 : ∀ W, Only wr W (fun k => k = bt) → W.cell? ⟨gl, j + 2, none⟩ = some (.int .u64 a) ∧ W.cell? ⟨gl, j + 2 + 1, none⟩ = some (.int .u64 q) ∧ W.cell? ⟨gl, j, none⟩ = some (.int .u64 pv) := fun W ho => ⟨by rw [CL.out W ho (j + 2) hi, ha], by rw [CL.out W ho (j + 2 + 1) hi1, hq], by rw [CL.out W ho j hj, hpvv]⟩
                                have X0 := Lib.hid x0
                                clear x0
                                by_cases hbad : q ∈ tk ∨ (c : Int) ≤ q
                                · have HN := Lib.hid (show E0 = none by have h := EQ.out; rw [entL, if_pos (.inr (.inr hbad))] at h; exact h.symm)
                                  rw [decide_eq_false (fun h => h hbad)] at TK
                                  clear hbad
                                  refine wp_region_quiet_tail 28 (by kernel_rfl) (by kernel_rfl) (by kernel_rfl) ?_
                                  simp only [List.take_succ_cons, List.take_zero, List.drop_succ_cons, List.drop_zero]
                                  repeat (go_big_quiet_step (fail))
                                  refine wpQuiet_nil ?_
                                  change wpList _ _ _ _ _ wr.drew
                                  go_wp2_with (first
                                    | (go_at_call 65; refine TK.out.mono ?_; rintro e w3 ⟨rfl, m3, o3⟩; have O3 := Lib.hid (OD2.out.step o3 (fun _ _ h => h)); clear m3 o3)
                                    | fail)
                                  all_goals
                                    go_wp2_with fail
                                    go_meet
                                    case rel => exact .inl ⟨rfl, ⟨HN.out⟩, ⟨((Only.of_below I2.out.ld.below (fun k => k = bt)).step O3.out (fun _ _ h => h)).below (Nat.le_refl _) (fun k hk e => by have := I2.out.ld.lo bt (by rw [I2.out.ld.ot]; decide); omega)⟩⟩
                                · have HOK := Lib.hid (show ¬ (728 ≤ a ∨ (∃ q, prev = some q ∧ a ≤ q) ∨ q ∈ tk ∨ (c : Int) ≤ q) by
                                    rintro (h | ⟨q', h, h2⟩ | h)
                                    · exact hA h
                                    · rw [hpv] at h; injection h with h; subst h; exact hB h2
                                    · exact hbad h)
                                  rw [decide_eq_true hbad] at TK
                                  clear hbad
                                  refine wp_region_quiet_tail 28 (by kernel_rfl) (by kernel_rfl) (by kernel_rfl) ?_
                                  simp only [List.take_succ_cons, List.take_zero, List.drop_succ_cons, List.drop_zero]
                                  repeat (go_big_quiet_step (fail))
                                  refine wpQuiet_nil ?_
                                  change wpList _ _ _ _ _ wr.drew
                                  go_wp2_with (first
                                    | (go_at_call 65; refine TK.out.mono ?_; rintro e w3 ⟨rfl, m3, o3⟩; have O3 := Lib.hid (OD2.out.step o3 (fun _ _ h => h)); have M3 := Lib.hid m3; clear m3 o3)
                                    | fail)
                                  all_goals
                                    go_wp2_with fail
                                    go_meet
                                    case rel => exact .inr ⟨rfl, ⟨_, TS.out _ O3.out M3.out HOK.out⟩⟩
                        case rest =>
                          rcases hcut with ⟨rfl, ⟨hN⟩, ⟨hB⟩⟩ | ⟨rfl, ⟨own3, hT⟩⟩
                          · have HN := Lib.hid hN
                            have HB := Lib.hid hB
                            clear hN hB
                            go_wp2_with fail
                            go_ret
                            exact ⟨HB.out, by rw [← HC.out, HEN.out HN.out]; rfl⟩
                          · have T3 := Lib.hid hT
                            clear hT
                            have hok := T3.out.ok
                            obtain ⟨an, han⟩ : ∃ an : Nat, a = (an : Int) := ⟨a.toNat, by omega⟩
                            obtain ⟨qn, hqn⟩ : ∃ qn : Nat, q = (qn : Int) := ⟨q.toNat, by omega⟩
                            subst han hqn
                            have ha7 : an < 728 := by
                              have : ¬ (728 : Int) ≤ (an : Int) := fun h => hok (.inl h)
                              omega
                            have hqc : qn < c := by
                              have : ¬ (c : Int) ≤ (qn : Int) := fun h => hok (.inr (.inr (.inr h)))
                              omega
                            have EQ2 := Lib.hid (show (if (Hand.unp (pageAt x.seen qn)).2.2 ≠ 0 ∨ (Hand.unp (pageAt x.seen qn)).1 ≠ idV an then none else entL x.seen c (l.drop (i + 2)) (some (an : Int)) (tk ++ [(qn : Int)]) (fun j => if j = an then some (qn, (Hand.unp (pageAt x.seen qn)).2.1) else f j)) = E0 from by
                              have h := EQ.out
                              rw [entL, if_neg hok, Int.toNat_natCast, Int.toNat_natCast] at h
                              exact h)
                            have hqm : (qn : Int) ≤ 100 := by omega
                            have ham : (an : Int) ≤ 728 := by omega
                            have hi10 : (0 : Int) ≤ (i : Int) + 1 := by omega
                            have hwi1 : IntKind.i64.wrap ((i : Int) + 1) = (i : Int) + 1 := wrapI (by omega) (by omega)
                            have him : (i : Int) ≤ 11200 := by omega
                            have ha0 : (0 : Int) ≤ (an : Int) := by omega
                            have hwq : IntKind.i64.wrap (qn : Int) = (qn : Int) := wrapI (by omega) (by omega)
                            have hwa : IntKind.i64.wrap (an : Int) = (an : Int) := wrapI (by omega) (by omega)
                            have HQ := Lib.hid hqc
                            have H7 := Lib.hid ha7
                            have BX := Lib.hid (((Only.refl wc (fun _ => False)).drew).below_all)
                            have c7 := T3.out.ld.b2.cell_at 0 _ rfl
                            have ca3 := T3.out.cl i hi
                            have cq3 := T3.out.cl (i + 1) hi1
                            rw [ha] at ca3
                            rw [hq] at cq3
                            have X3 := Lib.hid (show ∀ W, Below wc.heap.size wc W → W.cell? ⟨w.heap.size, 0, none⟩ = some (.pointer (some ⟨g, 0, none⟩)) ∧ W.cell? ⟨gl, i + 1, none⟩ = some (.int .u64 (qn : Int)) from fun W hW => ⟨(hW.cell (World.block_lt_of_cell? _ _ c7)).trans c7, (hW.cell (World.block_lt_of_cell? _ _ cq3)).trans cq3⟩)
                            have PR := Lib.hid (show Calls Try.prog 66 #[.pointer (some ⟨g, 0, none⟩), .int .i64 (qn : Int)] wc.drew fun e w' => ∃ v, e = .returned (.tuple #[.int .u32 (Hand.unp (pageAt x.seen qn)).1, v, .int .i64 (Hand.unp (pageAt x.seen qn)).2.2]) ∧ (Kd.int .u8).R 5 w' wc.heap.size (fun _ => True) v (Hand.unp (pageAt x.seen qn)).2.1 ∧ Below wc.heap.size wc w' from (pread_ok (w := wc.drew) (Lib.hid (HD.out.keep (Only.of_below (T3.out.ld.below.trans (BX.out.mono T3.out.ld.below.size)) (fun _ => False)) (fun _ _ h => h))) HG HLF qn (by have := HQ.out; have := HC.out; omega)).mono (fun e w' ⟨v, h1, h2, h3⟩ => ⟨v, h1, h2, BX.out.trans (h3.mono (Nat.le_refl _))⟩))
                            have HU := Lib.hid (unp_ok (b := pageAt x.seen qn) (fun y hy => HG.out.bs y (List.mem_of_mem_drop (List.mem_of_mem_take hy))))
                            obtain ⟨id, dd, ee, hu⟩ : ∃ id dd ee, Hand.unp (pageAt x.seen qn) = (id, dd, ee) := ⟨_, _, _, rfl⟩
                            rw [hu] at PR HU EQ2
                            clear hu hok ha7 hqc I2 TK CL OD2 TS BW2 ca cq EQ ra rq hqw
                            go_wp2_with fail
                            go_region_held3 (fun w' => w'.cell? ⟨w.heap.size, 0, none⟩ = some (.pointer (some ⟨g, 0, none⟩)) ∧ w'.cell? ⟨gl, i + 1, none⟩ = some (.int .u64 (qn : Int))) (exact X3.out _ (by first | exact BX.out | exact B4.out)) (first
                              | (go_at_call 66; refine PR.out.mono ?_; rintro e w4 ⟨v4, rfl, r4, b4⟩; have R4 := Lib.hid r4; have B4 := Lib.hid b4; clear r4 b4)
                              | fail)
                            all_goals
                              obtain ⟨A4, k4, ev4⟩ := Kd.R_slice R4.out
                              subst ev4
                              have hdl : dd.length ≤ 116 := HU.out.1
                              have L4 := Lib.hid (T3.out.ld.low B4.out 2)
                              have RW4 := Lib.hid ((Row.of_R (Kd.R_bound R4.out) (show dd.length ≤ 100000 by omega)).mono (ok' := fun b => upd own3 wc.heap.size 2 b = 2) (fun b _ hb => upd_ge hb.2.1))
                              have RT4 := Lib.hid (((T3.out.rt.mono (ok' := fun b => own3 b = 2 ∧ b < wc.heap.size) (fun b hb h => ⟨h, hb⟩)).keep (Only.of_below B4.out (fun _ => False)) (fun _ _ h => h)).mono (ok' := fun b => upd own3 wc.heap.size 2 b = 2) (fun b _ hb => by rw [upd_lt hb.2]; exact hb.1))
                              have OA4 := Lib.hid (show upd own3 wc.heap.size 2 gl = 9 ∧ gl < w4.heap.size from ⟨by rw [upd_lt (T3.out.oa (by omega)).2]; exact (T3.out.oa (by omega)).1, Nat.lt_of_lt_of_le (T3.out.oa (by omega)).2 B4.out.size⟩)
                              have CL4 := Lib.hid (show ∀ j (h : j < l.length), w4.cell? ⟨gl, j, none⟩ = some (.int .u64 l[j]) from fun j h => (B4.out.cell (World.block_lt_of_cell? _ _ (T3.out.cl j h))).trans (T3.out.cl j h))
                              obtain ⟨own4, hown4⟩ : ∃ own4, own4 = upd own3 wc.heap.size 2 := ⟨_, rfl⟩
                              rw [← hown4] at L4 RW4 RT4 OA4
                              have HOK := Lib.hid T3.out.ok
                              have ca4 := CL4.out i hi
                              rw [ha] at ca4
                              clear hown4 T3 X3 PR R4 B4 BX c7 ca3 cq3
                              by_cases he : ee = 0
                              · have e1 : (ee == 0) = true := beq_iff_eq.mpr he
                                have e2 : (ee != 0) = false := bne_eq_false_iff_eq.mpr he
                                have HEE := Lib.hid he
                                clear he
                                by_cases hid : id = idV an
                                · have e3 : (id == idV an) = true := beq_iff_eq.mpr hid
                                  have e4 : (id != idV an) = false := bne_eq_false_iff_eq.mpr hid
                                  have EQ3 := Lib.hid (show entL x.seen c (l.drop (i + 2)) (some (an : Int)) (tk ++ [(qn : Int)]) (fun j => if j = an then some (qn, dd) else f j) = E0 from by have h := EQ2.out; rw [if_neg (by rintro (h1 | h1); exact h1 HEE.out; exact h1 hid)] at h; exact h)
                                  clear hid EQ2 HEE
                                  go_upto_region 32 with (first
                                    | (go_at_call 61; refine (id_c an H7.out _).mono ?_; rintro e w5 ⟨rfl, nd, hw5⟩; have B5 := Lib.hid (show Below w4.heap.size w4 w5 by rw [hw5]; exact (((Only.refl w4 (fun _ => False)).drewN nd).below_all)); clear hw5)
                                    | fail)
                                  have BD5 := Lib.hid (show Below w4.heap.size w4 w5.drew from (((Only.of_below B5.out (fun _ => False)).drew).below_all))
                                  have L5 := Lib.hid (L4.out.low BD5.out 0)
                                  have RW5 := Lib.hid (((RW4.out.mono (ok' := fun b => own4 b = 2 ∧ b < w4.heap.size) (fun b hb h => ⟨h, hb⟩)).keep (Only.of_below BD5.out (fun _ => False)) (fun _ _ h => h)).mono (ok' := fun b => upd own4 w4.heap.size 0 b = 2) (fun b _ hb => by rw [upd_lt hb.2]; exact hb.1))
                                  have RT5 := Lib.hid (((RT4.out.mono (ok' := fun b => own4 b = 2 ∧ b < w4.heap.size) (fun b hb h => ⟨h, hb⟩)).keep (Only.of_below BD5.out (fun _ => False)) (fun _ _ h => h)).mono (ok' := fun b => upd own4 w4.heap.size 0 b = 2) (fun b _ hb => by rw [upd_lt hb.2]; exact hb.1))
                                  have OA5 := Lib.hid (show upd own4 w4.heap.size 0 gl = 9 ∧ gl < w5.drew.heap.size from ⟨by rw [upd_lt OA4.out.2]; exact OA4.out.1, Nat.lt_of_lt_of_le OA4.out.2 BD5.out.size⟩)
                                  have CL5 := Lib.hid (show ∀ j (h : j < l.length), w5.drew.cell? ⟨gl, j, none⟩ = some (.int .u64 l[j]) from fun j h => (BD5.out.cell (World.block_lt_of_cell? _ _ (CL4.out j h))).trans (CL4.out j h))
                                  obtain ⟨own5, hown5⟩ : ∃ own5, own5 = upd own4 w4.heap.size 0 := ⟨_, rfl⟩
                                  rw [← hown5] at L5 RW5 RT5 OA5
                                  obtain ⟨m, hm, hdom, hat⟩ := L5.out.mb
                                  obtain ⟨w6, hup, hm6, ho6⟩ := hm.update 728 hdom (by decide) (an : Int) (Rg.of (by omega) (by omega)) (.agg #[.int .i64 (qn : Int), .slice A4 dd.length k4])
                                  have nb : ∀ k, own5 k = 2 → k ≠ bk := fun k hk e => by have := L5.out.ob; rw [e] at hk; omega
                                  have MA6 := Lib.hid (MapAt.turnOk (w := w5.drew) (ok := fun b => own5 b = 2) (ok' := fun b => own5 b = 2 ∧ b < w5.drew.heap.size) hdom hat ho6 nb (fun b hb h => ⟨h, hb⟩) an H7.out (some (.agg #[.int .i64 (qn : Int), .slice A4 dd.length k4])) (some (qn, dd)) hm6 ⟨_, rfl, (RW5.out.mono (ok' := fun b => own5 b = 2 ∧ b < w5.drew.heap.size) (fun b hb h => ⟨h, hb⟩)).keep ho6 (fun b hb => nb b hb.1)⟩)
                                  have L6 := Lib.hid (L5.out.put ho6 MA6.out 0)
                                  have RT6 := Lib.hid (((RT5.out.mono (ok' := fun b => own5 b = 2 ∧ b < w5.drew.heap.size) (fun b hb h => ⟨h, hb⟩)).keep ho6 (fun b hb => nb b hb.1)).mono (ok' := fun b => upd own5 w5.drew.heap.size 0 b = 2) (fun b _ hb => by rw [upd_lt hb.2]; exact hb.1))
                                  have OA6 := Lib.hid (show upd own5 w5.drew.heap.size 0 gl = 9 ∧ gl < w6.heap.size from ⟨by rw [upd_lt OA5.out.2]; exact OA5.out.1, Nat.lt_of_lt_of_le OA5.out.2 ho6.size⟩)
                                  have CL6 := Lib.hid (show ∀ j (h : j < l.length), w6.cell? ⟨gl, j, none⟩ = some (.int .u64 l[j]) from fun j h => (ho6.cell (p := ⟨gl, j, none⟩) OA5.out.2 (fun e => by have h1 := OA5.out.1; have h2 := L5.out.ob; have e : gl = bk := e; rw [e] at h1; omega)).trans (CL5.out j h))
                                  have s4 := L5.out.bs.cell_at 4 _ rfl
                                  have ca5 := CL5.out i hi
                                  have cq5 := CL5.out (i + 1) hi1
                                  rw [ha] at ca5
                                  rw [hq] at cq5
                                  have s4' : w5.cell? ⟨s, 4, none⟩ = some (.map (some bk)) := s4
                                  have ca5' : w5.cell? ⟨gl, i, none⟩ = some (.int .u64 (an : Int)) := ca5
                                  have cq5' : w5.cell? ⟨gl, i + 1, none⟩ = some (.int .u64 (qn : Int)) := cq5
                                  have hwi2 : IntKind.i64.wrap ((i : Int) + 2) = (i : Int) + 2 := wrapI (by omega) (by omega)
                                  clear hm hdom hat hm6 ho6 nb MA6 RW5 RW4 ca4
                                  go_region
                                  go_wp2_with fail
                                  have HNX := Lib.hid (show (qn : Int) ∉ tk from fun h => HOK.out (.inr (.inr (.inl h))))
                                  go_roundg (gk - 1)
                                  case measure => have := HM2.out; omega
                                  case rel => exact ⟨i + 2, _, tk ++ [(qn : Int)], _, some (an : Int), (by simp), ⟨by have := HM2.out; omega⟩, ⟨L6.out, RT6.out, fun _ => OA6.out, CL6.out, EQ3.out, .inr ⟨i, rfl, hi, by rw [ha]⟩, List.nodup_append.2 ⟨HND.out, by simp, fun y hy z hz e => by rw [List.mem_singleton] at hz; rw [e, hz] at hy; exact HNX.out hy⟩, fun t ht => (List.mem_append.1 ht).elim (fun h => HRG.out t h) (fun h => by rw [List.mem_singleton] at h; have := HQ.out; omega)⟩⟩
                                · have e3 : (id == idV an) = false := beq_eq_false_iff_ne.mpr hid
                                  have e4 : (id != idV an) = true := bne_iff_ne.mpr hid
                                  have HN := Lib.hid (show E0 = none by have h := EQ2.out; rw [if_pos (.inr hid)] at h; exact h.symm)
                                  clear hid
                                  go_wp2_with (first
                                    | (go_at_call 61; refine (id_c an H7.out _).mono ?_; rintro e w5 ⟨rfl, nd, hw5⟩; have B5 := Lib.hid (show Below w4.heap.size w4 w5 by rw [hw5]; exact (((Only.refl w4 (fun _ => False)).drewN nd).below_all)); clear hw5)
                                    | fail)
                                  go_ret
                                  exact ⟨L4.out.below.trans (B5.out.mono L4.out.below.size), by rw [← HC.out, HEN.out HN.out]; rfl⟩
                              · have e1 : (ee == 0) = false := beq_eq_false_iff_ne.mpr he
                                have e2 : (ee != 0) = true := bne_iff_ne.mpr he
                                have HN := Lib.hid (show E0 = none by have h := EQ2.out; rw [if_pos (.inl he)] at h; exact h.symm)
                                clear he
                                go_wp2_with fail
                                go_ret
                                exact ⟨L4.out.below, by rw [← HC.out, HEN.out HN.out]; rfl⟩
                      · have hli : l.length ≤ i := by omega
                        have hii : ¬ (i : Int) < (l.length : Int) := by omega
                        have HV := Lib.hid (show loadV x c p = some ⟨x, (p : Int), a0, tabs, f, f⟩ from HES.out f (by
                          have h := I2.out.eq
                          rw [List.drop_of_length_le hli] at h
                          exact h.symm.trans (by unfold entL; rfl)))
                        obtain ⟨m, hm, hdom, hat⟩ := I2.out.ld.mb
                        have HCl := Lib.hid (clone_map bk m wr hm)
                        have HM := Lib.hid hm
                        have s4 := I2.out.ld.bs.cell_at 4 _ rfl
                        clear hi hm hle HND HRG
                        go_wp2_with (first
                          | (go_at_call 47; with_reducible refine HCl.out.mono ?_; rintro e w8 ⟨rfl, m8, b8⟩; have M8 := Lib.hid m8; have B8 := Lib.hid b8; have S8 := Lib.hid (I2.out.ld.bs.below b8 I2.out.ld.bs.lt); have f5 := S8.out.frozen 5; have c5 := S8.out.cell_at 5 _ rfl; clear m8 b8)
                          | fail)
                        go_ret
                        have hsl := I2.out.ld.bs.lt
                        have hz := I2.out.ld.below.size
                        have hbk := HM.out.lt
                        have O8 : Only wr (w8.setCell ⟨s, 5, none⟩ (.map (some wr.heap.size))) (fun k => k = s) := (Only.of_below B8.out (fun k => k = s)).setCell (fun _ => rfl) _
                        have hlos : w.heap.size ≤ s := I2.out.ld.lo s (by rw [I2.out.ld.os]; decide)
                        have BF : Below w.heap.size w (w8.setCell ⟨s, 5, none⟩ (.map (some wr.heap.size))) := ((Only.of_below I2.out.ld.below (fun k => k = s)).step O8 (fun _ _ h => h)).below (Nat.le_refl _) (fun k hk e => by omega)
                        refine ⟨BF, ?_⟩
                        rw [← HC.out, HV.out]
                        have hbks : bk ≠ s := fun e => HM.out.ne I2.out.ld.bs e.symm
                        have old2 : ∀ b, own2 b = 2 → w.heap.size ≤ b ∧ b ≠ s := fun b hb => ⟨I2.out.ld.lo b (by rw [hb]; decide), fun e => by have := I2.out.ld.os; rw [← e, hb] at this; cases this⟩
                        refine ⟨s, fun k => if k < w.heap.size then (if own k = 1 then 1 else 0) else if k = s then 3 else if k = bk then 3 else if k = wr.heap.size then 3 else if k < wr.heap.size ∧ own2 k = 2 then 2 else 0, rfl, fun k hk => if_pos hk, ?_⟩
                        have hown2 : ∀ b, own2 b = 2 ∧ b < wr.heap.size → (if b < w.heap.size then (if own b = 1 then 1 else 0) else if b = s then 3 else if b = bk then 3 else if b = wr.heap.size then 3 else if b < wr.heap.size ∧ own2 b = 2 then 2 else 0) = 2 := fun b hb => by
                          have h1 := old2 b hb.1
                          have h2 : b ≠ bk := fun e => by have := I2.out.ld.ob; rw [← e, hb.1] at this; cases this
                          rw [if_neg (by omega), if_neg h1.2, if_neg h2, if_neg (by omega), if_pos ⟨hb.2, hb.1⟩]
                        refine ⟨Nat.le_trans hb BF.size, fun k hk => ?_, ?_, bk, wr.heap.size, tv, S8.out.set_ 5 _, ?_, ?_, ?_, by omega, ?_, ?_, ?_⟩
                        · by_cases h1 : k < w.heap.size
                          · have hk2 : (if own k = 1 then 1 else 0) ≠ 0 := by
                              have e : (if k < w.heap.size then (if own k = 1 then 1 else 0) else if k = s then 3 else if k = bk then 3 else if k = wr.heap.size then 3 else if k < wr.heap.size ∧ own2 k = 2 then 2 else 0) = (if own k = 1 then 1 else 0) := if_pos h1
                              rw [← e]; exact hk
                            exact HLO.out k (by
                              by_cases h2 : own k = 1
                              · exact h2
                              · exact absurd (if_neg h2) hk2)
                          · omega
                        · exact (HD.out.bound.keep (Only.of_below BF (fun _ => False)) (fun _ _ h => h)).mono (fun k hk => (if_pos hk.2.2).trans (if_pos hk.1))
                        · exact (if_neg (by omega)).trans (if_pos rfl)
                        · have := I2.out.ld.lo bk (by rw [I2.out.ld.ob]; decide)
                          exact (if_neg (by omega)).trans ((if_neg hbks).trans (if_pos rfl))
                        · exact (if_neg (by omega)).trans ((if_neg (by omega)).trans ((if_neg (by omega)).trans (if_pos rfl)))
                        · exact ((I2.out.rt.mono (ok' := fun b => own2 b = 2 ∧ b < wr.heap.size) (fun b hb h => ⟨h, hb⟩)).keep O8 (fun b hb => (old2 b hb.1).2)).mono (fun b _ hb => hown2 b hb)
                        · exact ⟨m, HM.out.step O8 hbks, hdom, fun j => (((hat j).mono (ok' := fun b => own2 b = 2 ∧ b < wr.heap.size) (fun b hb h => ⟨h, hb⟩)).keep O8 (fun b hb => (old2 b hb.1).2)).mono (fun b _ hb => hown2 b hb)⟩
                        · exact ⟨m, M8.out.setCell (by show s ≠ wr.heap.size; omega) _, hdom, fun j => (((hat j).mono (ok' := fun b => own2 b = 2 ∧ b < wr.heap.size) (fun b hb h => ⟨h, hb⟩)).keep O8 (fun b hb => (old2 b hb.1).2)).mono (fun b _ hb => hown2 b hb)⟩
                  · have HN := Lib.hid (show loadV x c p = none by rw [HV.out, if_pos hev])
                    have hlm := NR.out.2
                    have hm2 : ((l.length : Int) % 2) = 1 := by omega
                    have hm3 : (l.length : Int).tmod 2 = 1 := by rw [Int.tmod_eq_emod_of_nonneg (by omega)]; exact hm2
                    go_wp2_with (first
                  | (go_at_call 67; refine NU.out.mono ?_; rintro e w7 ⟨v7, rfl, r7, b7⟩; obtain ⟨A7, k7, ev7⟩ := Kd.R_slice r7; subst ev7; have R7 := Lib.hid r7; have B7 := Lib.hid b7; clear r7 b7)
                  | fail)
                    go_ret
                    exact ⟨LI.out.ld.below.trans (B7.out.mono LI.out.ld.below.size), by rw [← HC.out, HN.out]; rfl⟩
              · have e1 : (next == 0) = false := beq_eq_false_iff_ne.mpr hx0
                have e2 : (next != 0) = true := bne_iff_ne.mpr hx0
                have HN := Lib.hid (show T0 = none by have h := EQ.out; rw [if_neg hx0] at h; exact h.symm)
                clear hx0
                go_wp2_with fail
                go_ret
                exact ⟨LI.out.ld.below, by rw [← HC.out, HTN.out HN.out]; rfl⟩
            · obtain ⟨m, rfl⟩ : ∃ m, gk = m + 1 := ⟨gk - 1, by omega⟩
              have hgt : (0 : Int) < ((m + 1 : Nat) : Int) := by omega
              have HGK := Lib.hid hgt
              have hln := LI.out.len
              have TK := Lib.hid (take_c (HD.out.keep (Only.of_below LI.out.ld.below (fun _ => False)) (fun _ _ h => h)) HG.out LI.out.ld.mt LI.out.ld.b8 LI.out.ld.b2 (by simp; omega) next ⟨LI.out.nx.1, by have := LI.out.nx.2; omega⟩)
              obtain ⟨c, hc⟩ : ∃ c, c = n / 4 := ⟨_, rfl⟩
              have HC := Lib.hid hc
              rw [← hc] at TK LI hln HTN HTS
              clear hc hln
              by_cases hbad : next ∈ 0 :: 1 :: tabs ∨ (c : Int) ≤ next
              · rw [decide_eq_false (fun h => h hbad)] at TK
                have HN := Lib.hid (show T0 = none by have h := LI.out.eq; rw [tabL, if_pos hbad] at h; exact h.symm)
                clear hbad
                go_wp2_with (first
                  | (go_at_call 65; refine TK.out.mono ?_; rintro e w7 ⟨rfl, m7, o7⟩; have M7 := Lib.hid m7; have O7 := Lib.hid o7; have L7 := Lib.hid (LI.out.ld.take o7 m7 0); have c7 := L7.out.b2.cell_at 0 _ rfl; clear m7 o7)
                  | fail)
                go_ret
                exact ⟨L7.out.below, by rw [← HC.out, HTN.out HN.out]; rfl⟩
              · rw [decide_eq_true hbad] at TK
                obtain ⟨q, hq⟩ : ∃ q : Nat, next = (q : Int) := ⟨next.toNat, by have := LI.out.nx.1; omega⟩
                subst hq
                have hqc : q < c := by
                  have : ¬ (c : Int) ≤ (q : Int) := fun h => hbad (.inr h)
                  omega
                have hqm : (q : Int) ≤ 100 := by have := HC.out; omega
                have hwq : IntKind.i64.wrap (q : Int) = (q : Int) := wrapI (by omega) (by omega)
                have HB := Lib.hid hbad
                have HQ := Lib.hid hqc
                clear hbad hqc
                go_wp2_with (first
                  | (go_at_call 65; refine TK.out.mono ?_; rintro e w7 ⟨rfl, m7, o7⟩; have M7 := Lib.hid m7; have O7 := Lib.hid o7; have L7 := Lib.hid (LI.out.ld.take o7 m7 0); have c7 := L7.out.b2.cell_at 0 _ rfl; clear m7 o7)
                  | fail)
                have RT7 := Lib.hid (LI.out.rt.old O7.out (fun b hb e => by rw [e, LI.out.ld.ot] at hb; cases hb) 0)
                have RB7 := Lib.hid (LI.out.rb.old O7.out (fun b hb e => by rw [e, LI.out.ld.ot] at hb; cases hb) 0)
                have PR := Lib.hid (pread_ok (Lib.hid (HD.out.keep (Only.of_below L7.out.below (fun _ => False)) (fun _ _ h => h))) HG HLF q (by have := HQ.out; have := HC.out; omega))
                have HU := Lib.hid (unp_ok (b := pageAt x.seen q) (fun y hy => HG.out.bs y (List.mem_of_mem_drop (List.mem_of_mem_take hy))))
                have EQ := Lib.hid (show (if (Hand.unp (pageAt x.seen q)).2.2 ≠ 0 ∨ (Hand.unp (pageAt x.seen q)).1 ≠ 2 ∨ (Hand.unp (pageAt x.seen q)).2.1.length < 4 then none else tabL x.seen c m (numV ((Hand.unp (pageAt x.seen q)).2.1.take 4)) (tabs ++ [(q : Int)]) (table ++ (Hand.unp (pageAt x.seen q)).2.1.drop 4)) = T0 from by
                  have h := LI.out.eq
                  rw [tabL, if_neg HB.out, Int.toNat_natCast] at h
                  exact h)
                obtain ⟨id, dd, ee, hu⟩ : ∃ id dd ee, Hand.unp (pageAt x.seen q) = (id, dd, ee) := ⟨_, _, _, rfl⟩
                rw [hu] at PR HU EQ
                obtain ⟨own7, hown7⟩ : ∃ own7, own7 = upd own' wr.heap.size 0 := ⟨_, rfl⟩
                rw [← hown7] at L7 RT7 RB7
                clear hu hown7 TK M7 O7
                by_cases he : ee = 0
                · have e1 : (ee == 0) = true := beq_iff_eq.mpr he
                  have e2 : (ee != 0) = false := bne_eq_false_iff_eq.mpr he
                  have HEE := Lib.hid he
                  clear he
                  by_cases hid : id = 2
                  · have e3 : (id == 2) = true := beq_iff_eq.mpr hid
                    have e4 : (id != 2) = false := bne_eq_false_iff_eq.mpr hid
                    have HID := Lib.hid hid
                    clear hid
                    by_cases hlen : dd.length < 4
                    · have hli : (dd.length : Int) < 4 := by omega
                      have HN := Lib.hid (show T0 = none by have h := EQ.out; rw [if_pos (.inr (.inr hlen))] at h; exact h.symm)
                      clear hlen
                      go_wp2_with (first
                | (go_at_call 66; refine PR.out.mono ?_; rintro e w8 ⟨v8, rfl, r8, b8⟩; obtain ⟨A8, k8, ev8⟩ := Kd.R_slice r8; subst ev8; have R8 := Lib.hid r8; have B8 := Lib.hid b8; clear r8 b8)
                | fail)
                      go_ret
                      exact ⟨L7.out.below.trans (B8.out.mono L7.out.below.size), by rw [← HC.out, HTN.out HN.out]; rfl⟩
                    · have hli : ¬ (dd.length : Int) < 4 := by omega
                      have EQ2 := Lib.hid (show tabL x.seen c m (numV (dd.take 4)) (tabs ++ [(q : Int)]) (table ++ dd.drop 4) = T0 from by have h := EQ.out; rw [if_neg (by rintro (h1 | h1 | h1); exact h1 HEE.out; exact h1 HID.out; exact hlen h1)] at h; exact h)
                      have HLN := Lib.hid hlen
                      clear hlen EQ
                      have hdl : dd.length ≤ 116 := HU.out.1
                      have LLT := Lib.hid (show (tabs.length + 1) * 8 ≤ 140737488355328 by have := LI.out.len; have := HC.out; omega)
                      have LLH := Lib.hid (show (table.length + (dd.length - 4)) * 1 ≤ 140737488355328 by have := LI.out.len; have := LI.out.tl; have := HC.out; omega)
                      have HMM := Lib.hid (show ∀ W, (Kd.int .i64).M W w.heap.size (fun _ => False) (q : Int) [.int .i64 (q : Int)] from fun W => rfl)
                      go_upto_region 16 with (first
                        | (go_at_call 66; refine PR.out.mono ?_; rintro e w8 ⟨v8, rfl, r8, b8⟩; obtain ⟨gd, k8, j8, rfl, d1, -, d3, -, -, d6⟩ := R_open r8 (show 0 < dd.length by have := HLN.out; omega); have B8 := Lib.hid b8; have D8 := Lib.hid d6; have D1 := Lib.hid d1; have D3 := Lib.hid d3; have L8 := Lib.hid (L7.out.low b8 0); have RT8 := Lib.hid (RT7.out.low b8 0); have RB8 := Lib.hid (RB7.out.low b8 0); have s3 := L8.out.bs.cell_at 3 _ rfl; clear r8 b8 d1 d3 d6)
                        | fail)
                      have OG := Lib.hid (show upd own7 w7.heap.size 0 gd = 0 from upd_ge D1.out)
                      obtain ⟨own8, hown8⟩ : ∃ own8, own8 = upd own7 w7.heap.size 0 := ⟨_, rfl⟩
                      rw [← hown8] at L8 RT8 RB8 OG
                      clear hown8
                      have APT := Lib.hid (show ∀ v9 w9, (Kd.int .i64).R 3 w9 w.heap.size (fun b => own8 b = 7 ∨ w8.heap.size ≤ b) v9 (tabs ++ [(q : Int)]) → w8.grownBy w9 tv.ownBlock →
                          Ld w w9 (upd own8 w8.heap.size 7) g w.heap.size c8 s bk bt (p : Int) a0 tv (0 :: 1 :: tabs ++ [(q : Int)]) (fun _ => none) ∧ Lrow w w9 (upd own8 w8.heap.size 7) 7 .i64 3 v9 (tabs ++ [(q : Int)]) ∧ Lrow w w9 (upd own8 w8.heap.size 7) 8 .u8 5 u10 table ∧ Blk w9 gd 5 (icells .u8 dd ++ j8) from fun v9 w9 hR hg => by
                        have key : ∀ k, some k = tv.ownBlock → own8 k = 7 := fun k e => RT8.out.1 k e.symm
                        have hbase : ∀ k, some k = tv.ownBlock → w.heap.size ≤ k := fun k e => Kd.R_base RT8.out k e.symm
                        exact ⟨L8.out.keep (Only.of_grown hg) (fun k hk e => by have := key k e; omega) (fun k e => hbase k e) 7, Lrow.mod hR, RB8.out.old (Only.of_grown hg) (fun k hk e => by have := key k e; omega) 7, D8.out.keep (Only.of_grown hg) (fun e => by have := key gd e; have := OG.out; omega)⟩)
                      have B08 := Lib.hid L8.out.below
                      obtain ⟨nt, hnt⟩ : ∃ nt, (tabs ++ [(q : Int)]).length = nt := ⟨_, rfl⟩
                      have HNT := Lib.hid hnt
                      clear hnt
                      go_upto_region 17 with (first
                        | ((with_reducible refine gate_builtin (b := .append) (xs := #[.tmp 100, .tmp 103]) rfl ?_); at_builtin; refine Kd.R_append (Kd.int .i64) (w0 := w) w.heap.size rfl (.tmp 100) (.tmp 103) 43 3 (.int .i64 0) 8 rfl Try.underlying43 info3 rfl (by decide) (by decide) tv tabs (q : Int) [.int .i64 (q : Int)] (fun b => own8 b = 7 ∨ w8.heap.size ≤ b) (fun _ => False) rfl rfl (HMM.out _) (fun _ h => h.elim) (fun _ h => .inr h) (Kd.R_mono RT8.out (fun _ h => .inl h)) B08.out B08.out.size LLT.out ?_; intro v9 w9 hR9 hb9 hg9 hat9; obtain ⟨A9, k9, ev9⟩ := Kd.R_slice hR9; rw [HNT.out] at ev9; subst ev9; have T9 := APT.out _ w9 hR9 hg9; have L9 := Lib.hid T9.1; have RT9 := Lib.hid T9.2.1; have RB9 := Lib.hid T9.2.2.1; have D9 := Lib.hid T9.2.2.2; have f9 := L9.out.bs.frozen 3; have s9 := L9.out.bs.cell_at 3 _ rfl; clear hR9 hb9 hg9 hat9 T9)
                        | fail)
                      have OG9 := Lib.hid (show upd own8 w8.heap.size 7 gd = 0 by rw [upd_lt D8.out.lt]; exact OG.out)
                      obtain ⟨own9, hown9⟩ : ∃ own9, own9 = upd own8 w8.heap.size 7 := ⟨_, rfl⟩
                      rw [← hown9] at L9 RT9 RB9 OG9
                      clear hown9 APT B08 L8 RT8 RB8 OG D8
                      have O10 : Only w9 (w9.setCell ⟨s, 3, none⟩ (.slice A9 nt k9)) (fun k => k = s) := (Only.refl w9 (fun k => k = s)).setCell (fun _ => rfl) _
                      have L10 := Lib.hid (L9.out.turn O10 (L9.out.bs.set_ 3 (.slice A9 nt k9)) 0)
                      have RT10 := Lib.hid (RT9.out.old O10 (fun b hb e => by rw [e, L9.out.os] at hb; cases hb) 0)
                      have RB10 := Lib.hid (RB9.out.old O10 (fun b hb e => by rw [e, L9.out.os] at hb; cases hb) 0)
                      have D10 := Lib.hid (D9.out.keep O10 (fun e => by have := OG9.out; rw [e, L9.out.os] at this; cases this))
                      have OG10 := Lib.hid (show upd own9 w9.heap.size 0 gd = 0 by rw [upd_lt D9.out.lt]; exact OG9.out)
                      obtain ⟨own10, hown10⟩ : ∃ own10, own10 = upd own9 w9.heap.size 0 := ⟨_, rfl⟩
                      rw [← hown10] at L10 RT10 RB10 OG10
                      clear hown10 L9 RT9 RB9 OG9 D9 O10 f9 s9
                      generalize w9.setCell ⟨s, 3, none⟩ (.slice A9 nt k9) = w10 at *
                      have CP := Lib.hid (show (Kd.int .u8).C w10 (if k8 = 4 then some ⟨gd, 0, none⟩ else some ⟨gd, 4, none⟩) (dd.length - 4) (dd.drop 4) by
                        have hl4 := HLN.out
                        by_cases hk4 : k8 = 4
                        · have h0 : dd.length = 4 := by have := D3.out; omega
                          rw [h0, List.drop_of_length_le (by omega)]
                          exact ⟨rfl, by decide, (fun h => by cases h)⟩
                        · rw [if_neg hk4]
                          have h := C_pre' D10.out (show 4 + (dd.length - 4) ≤ dd.length by omega) (by omega)
                          rw [List.take_of_length_le (by rw [List.length_drop]; omega)] at h
                          exact h)
                      have APB := Lib.hid (show ∀ v11 w11, (Kd.int .u8).R 5 w11 w.heap.size (fun b => own10 b = 8 ∨ w10.heap.size ≤ b) v11 (table ++ dd.drop 4) → w10.grownBy w11 u10.ownBlock →
                          Ld w w11 (upd own10 w10.heap.size 8) g w.heap.size c8 s bk bt (p : Int) a0 (.slice A9 nt k9) (0 :: 1 :: tabs ++ [(q : Int)]) (fun _ => none) ∧ Lrow w w11 (upd own10 w10.heap.size 8) 7 .i64 3 (.slice A9 nt k9) (tabs ++ [(q : Int)]) ∧ Lrow w w11 (upd own10 w10.heap.size 8) 8 .u8 5 v11 (table ++ dd.drop 4) ∧ Blk w11 gd 5 (icells .u8 dd ++ j8) from fun v11 w11 hR hg => by
                        have key : ∀ k, some k = u10.ownBlock → own10 k = 8 := fun k e => RB10.out.1 k e.symm
                        have hbase : ∀ k, some k = u10.ownBlock → w.heap.size ≤ k := fun k e => Kd.R_base RB10.out k e.symm
                        exact ⟨L10.out.keep (Only.of_grown hg) (fun k hk e => by have := key k e; omega) (fun k e => hbase k e) 8, RT10.out.old (Only.of_grown hg) (fun k hk e => by have := key k e; omega) 8, Lrow.mod hR, D10.out.keep (Only.of_grown hg) (fun e => by have := key gd e; have := OG10.out; omega)⟩)
                      have B10 := Lib.hid L10.out.below
                      have RB11 := Lib.hid (show (Kd.int .u8).R 5 w10 w.heap.size (fun b => own10 b = 8 ∨ w10.heap.size ≤ b) u10 table from Kd.R_mono RB10.out (fun _ h => .inl h))
                      have NB := Lib.hid (show ∀ W, Blk W gd 5 (icells .u8 dd ++ j8) → Calls Try.prog 64 #[.slice (some ⟨gd, 0, none⟩) 4 k8] W fun e w' => e = .returned (.int .u64 (numV (dd.take 4))) ∧ ∃ k, w' = W.drewN k from fun W hW => by
                        have hl4 := HLN.out
                        have hl : (dd.take 4).length = 4 := by rw [List.length_take]; omega
                        have h := C_pre' (o := 0) hW (show 0 + 4 ≤ dd.length by omega) (by omega)
                        have h2 := number_c (some ⟨gd, 0, none⟩) k8 (dd.take 4) W (by rw [hl]; exact h) (by have := D3.out; omega) (by omega) (fun y hy => HU.out.2.1 y (List.mem_of_mem_take hy))
                        rw [hl] at h2
                        exact h2)
                      have hk4i : (4 : Int) ≤ (k8 : Int) := by have := D3.out; have := HLN.out; omega
                      have hwm : IntKind.u64.wrap (m : Int) = (m : Int) := by have := LI.out.ml; rw [Pure.wrap_u64]; omega
                      go_wp2_with (first
                        | ((with_reducible refine gate_builtin (b := .append) (xs := #[.tmp 107, .tmp 109]) rfl ?_); at_builtin; refine Kd.R_append_rows (Kd.int .u8) (w0 := w) w.heap.size rfl (.tmp 107) (.tmp 109) 23 5 (.int .u8 0) 1 rfl Try.underlying23 info5 rfl (by decide) (by decide) u10 table (dd.drop 4) _ _ _ (fun b => own10 b = 8 ∨ w10.heap.size ≤ b) (fun _ => False) rfl rfl RB11.out CP.out (fun _ _ h => h) (fun _ h => h.elim) (fun _ h => .inr h) B10.out B10.out.size LLH.out ?_; intro v11 w11 hR11 hb11 hg11 hat11; have T11 := APB.out v11 w11 hR11 hg11; have L11 := Lib.hid T11.1; have RT11 := Lib.hid T11.2.1; have RB12 := Lib.hid T11.2.2.1; have D11 := Lib.hid T11.2.2.2; clear hR11 hb11 hg11 hat11 T11)
                        | (go_at_call 64; refine (NB.out _ D11.out).mono ?_; rintro e w12 ⟨rfl, kk, hw12⟩; have B12 := Lib.hid (show Below w11.heap.size w11 w12 by rw [hw12]; exact ((Only.refl w11 (fun _ => False)).drewN kk).below_all); clear hw12)
                        | fail)
                      all_goals
                        have L12 := Lib.hid (L11.out.low B12.out 0)
                        have RT12 := Lib.hid (RT11.out.low B12.out 0)
                        have RB13 := Lib.hid (RB12.out.low B12.out 0)
                        have nr := numV_range (dd.take 4) (fun y hy => HU.out.2.1 y (List.mem_of_mem_take hy))
                        have np : (256 : Nat) ^ (dd.take 4).length ≤ 256 ^ 4 := Nat.pow_le_pow_right (by decide) (by rw [List.length_take]; omega)
                        have n4 : (256 : Nat) ^ 4 = 4294967296 := by decide
                        have NR := Lib.hid (show 0 ≤ numV (dd.take 4) ∧ numV (dd.take 4) < 4294967296 by omega)
                        have NODX := Lib.hid (show (0 :: 1 :: (tabs ++ [(q : Int)])).Nodup from by
                          have h1 := LI.out.nod
                          have h2 : (q : Int) ∉ 0 :: 1 :: tabs := fun h => HB.out (.inl h)
                          have h3 : (0 :: 1 :: (tabs ++ [(q : Int)])) = (0 :: 1 :: tabs) ++ [(q : Int)] := rfl
                          rw [h3]
                          refine List.nodup_append.2 ⟨h1, by simp, fun a ha b hb e => ?_⟩
                          rw [List.mem_singleton] at hb
                          rw [e, hb] at ha
                          exact h2 ha)
                        have RNG := Lib.hid (show ∀ t ∈ tabs ++ [(q : Int)], 2 ≤ t ∧ t < (c : Int) from fun t ht => by
                          rcases List.mem_append.1 ht with h | h
                          · exact LI.out.rng t h
                          · rw [List.mem_singleton] at h
                            subst h
                            have h1 : (q : Int) ∉ 0 :: 1 :: tabs := fun h => HB.out (.inl h)
                            have h2 : (q : Int) ≠ 0 := fun e => h1 (by rw [e]; simp)
                            have h3 : (q : Int) ≠ 1 := fun e => h1 (by rw [e]; simp)
                            have := HQ.out
                            omega)
                        clear nr np
                        go_roundg m
                        case measure => omega
                        case rel => exact ⟨_, tabs ++ [(q : Int)], table ++ dd.drop 4, numV (dd.take 4), .slice A9 nt k9, rfl, rfl, ⟨by rw [← HC.out]; exact ⟨L12.out, RT12.out, RB13.out, EQ2.out, NODX.out, RNG.out, by have := LI.out.tl; simp only [List.length_append, List.length_drop, List.length_singleton]; omega, fun y hy => (List.mem_append.1 hy).elim (fun h => LI.out.tb y h) (fun h => HU.out.2.1 y (List.mem_of_mem_drop h)), NR.out, by have := LI.out.ml; omega⟩⟩⟩
                  · have e3 : (id == 2) = false := beq_eq_false_iff_ne.mpr hid
                    have e4 : (id != 2) = true := bne_iff_ne.mpr hid
                    have HN := Lib.hid (show T0 = none by have h := EQ.out; rw [if_pos (.inr (.inl hid))] at h; exact h.symm)
                    clear hid
                    go_wp2_with (first
                | (go_at_call 66; refine PR.out.mono ?_; rintro e w8 ⟨v8, rfl, r8, b8⟩; obtain ⟨A8, k8, ev8⟩ := Kd.R_slice r8; subst ev8; have R8 := Lib.hid r8; have B8 := Lib.hid b8; clear r8 b8)
                | fail)
                    go_ret
                    exact ⟨L7.out.below.trans (B8.out.mono L7.out.below.size), by rw [← HC.out, HTN.out HN.out]; rfl⟩
                · have e1 : (ee == 0) = false := beq_eq_false_iff_ne.mpr he
                  have e2 : (ee != 0) = true := bne_iff_ne.mpr he
                  have HN := Lib.hid (show T0 = none by have h := EQ.out; rw [if_pos (.inl he)] at h; exact h.symm)
                  clear he
                  go_wp2_with (first
                | (go_at_call 66; refine PR.out.mono ?_; rintro e w8 ⟨v8, rfl, r8, b8⟩; obtain ⟨A8, k8, ev8⟩ := Kd.R_slice r8; subst ev8; have R8 := Lib.hid r8; have B8 := Lib.hid b8; clear r8 b8)
                | fail)
                  go_ret
                  exact ⟨L7.out.below.trans (B8.out.mono L7.out.below.size), by rw [← HC.out, HTN.out HN.out]; rfl⟩
      · have e5 : (a2 == 0) = false := beq_eq_false_iff_ne.mpr h3
        have e6 : (a2 != 0) = true := bne_iff_ne.mpr h3
        have HV := Lib.hid (show loadV x (n / 4) p = none by
          unfold loadV
          rw [← HR.out, if_neg]
          rintro ⟨h4, h5, h6⟩
          exact h3 (by rw [HA2.out]; exact h6))
        go_quiet (first
          | (go_at_call 64; with_reducible refine Calls.quiet_of (N00.out _))
          | (go_at_call 64; with_reducible refine Calls.quiet_of (N24.out _))
          | (go_at_call 64; with_reducible refine Calls.quiet_of (N16.out _)))
        go_wp2_with fail
        go_ret
        refine ⟨?_, ?_⟩
        · exact (((Only.of_below B01.out (fun _ => False)).drewN _).below_all)
        · rw [HV.out]
          rfl
  · have e1 : (a0 != a1) = true := bne_iff_ne.mpr h1
    have e2 : (a0 == a1) = false := beq_eq_false_iff_ne.mpr h1
    have HV := Lib.hid (show loadV x (n / 4) p = none by
      unfold loadV
      rw [← HR.out, if_neg]
      rintro ⟨h4, h5, h6⟩
      exact h1 (by rw [HA0.out, HA1.out]; exact h4))
    go_quiet (first
      | (go_at_call 64; with_reducible refine Calls.quiet_of (N00.out _))
      | (go_at_call 64; with_reducible refine Calls.quiet_of (N24.out _))
      | (go_at_call 64; with_reducible refine Calls.quiet_of (N16.out _)))
    go_wp2_with fail
    go_ret
    refine ⟨?_, ?_⟩
    · exact (((Only.of_below B01.out (fun _ => False)).drewN _).below_all)
    · rw [HV.out]
      rfl
end Go.Proofs.Ytochnokfcfmgnaa.St
end

section
/- Seat F: a store is opened, walked. -/
namespace Go.Proofs.Ytochnokfcfmgnaa.St
open Go Go.RowKit Go.Proofs.Ytochnokfcfmgnaa.Mem Go.Proofs.YtochnokfcfmgnaaW.PrintWords Go.Proofs.Ytochnokfcfmgnaa.Dk Go.Maps Go.ChangeMaps Go.Proofs.Ytochnokfcfmgnaa.Sh Go.Proofs.Ytochnokfcfmgnaa.Sp Go.Proofs.Ytochnokfcfmgnaa.Pg
set_option linter.unusedVariables false
set_option linter.unusedSimpArgs false
set_option maxRecDepth 100000
set_option maxHeartbeats 4000000
/-- The store that Open gives. -/
def openV (x : DV) (c : Nat) : Option SV := match loadV x c 0, loadV x c 1 with
  | none, none => none
  | none, some b => some b
  | some a, none => some a
  | some a, some b => if a.epoch < b.epoch then some b else some a
def OpQ (w : World) (own : Nat → Nat) (base g : Nat) (o : Option SV) (e : Ending) (w' : World) : Prop :=
  Below w.heap.size w w' ∧ match o with
    | none => e = .returned (.tuple #[.pointer none, .int .i64 6])
    | some S => ∃ s own', e = .returned (.tuple #[.pointer (some ⟨s, 0, none⟩), .int .i64 0]) ∧ (∀ k, k < w.heap.size → own' k = if own k = 1 then 1 else 0) ∧ St w' own' base g s S
theorem St.epoch_cell {w : World} {own : Nat → Nat} {base g s : Nat} {S : SV} (h : St w own base g s S) : w.cell? ⟨s, 2, none⟩ = some (.int .u64 S.epoch) := by
  obtain ⟨_, _, _, h1, _⟩ := h.blk
  exact h1.cell_at 2 _ rfl
theorem St.keep0 {w : World} {own : Nat → Nat} {base g s : Nat} {S : SV} (h : St w own base g s S) (k : Nat) : St (w.drewN k) own base g s S := ⟨h.hb, h.lo, h.disk, h.blk⟩
theorem open_c {w : World} {own : Nat → Nat} {base g n : Nat} {x : DV} (hb : base ≤ w.heap.size) (hd : IsDisk w base (fun k => own k = 1) g x) (hlo : ∀ k, own k = 1 → base ≤ k) (hg : Dk.Good x n) (hlife : x.life = -1) (hn1 : 12 ≤ n) (hn : n ≤ 400) :
    Calls Try.prog 26 #[.pointer (some ⟨g, 0, none⟩)] w fun e w' => OpQ w own base g (openV x (n / 4)) e w' := by
  have HD := Lib.hid hd
  have HG := Lib.hid hg
  have HLO := Lib.hid hlo
  have hck : chk x.life 0 (n : Int) = 0 := by unfold chk; rw [if_neg (by rw [hlife]; decide), if_neg (by omega)]
  have RD := Lib.hid (show Calls Try.prog 44 #[.pointer (some ⟨g, 0, none⟩), .int .i64 0] w fun e w' => ∃ v, e = .returned (.tuple #[v, .int .i64 0]) ∧ Below w.heap.size w w' from by
    have h := dk_read hd hg hg.n2 0
    rw [hck, if_pos rfl] at h
    exact h.mono (fun e w' ⟨v, h1, _, h2⟩ => ⟨v, h1, h2⟩))
  obtain ⟨c, hc⟩ : ∃ c, c = n / 4 := ⟨_, rfl⟩
  have hc3 : 3 ≤ c := by omega
  have hci3 : (3 : Int) ≤ (c : Int) := by omega
  have CO := Lib.hid (show ∀ W, Below w.heap.size w W → Calls Try.prog 45 #[.pointer (some ⟨g, 0, none⟩)] W fun e w' => e = .returned (.int .i64 (c : Int)) ∧ W = w' from fun W hW => by
    rw [hc]
    exact Pg.count_any (hd.keep (Only.of_below hW (fun _ => False)) (fun _ _ h => h)) hg)
  have LD0 := Lib.hid (show ∀ W, Below w.heap.size w W → Calls Try.prog 46 #[.pointer (some ⟨g, 0, none⟩), .int .i64 0] W fun e w' => LdQ W (upd own w.heap.size 0) base g (loadV x c 0) e w' from fun W hW => by
    rw [hc]
    exact load_c (Nat.le_trans hb hW.size) ((hd.bound.keep (Only.of_below hW (fun _ => False)) (fun _ _ h => h)).mono (fun k hk => by rw [upd_lt hk.2.2]; exact hk.1)) (fun k hk => by
      by_cases h : k < w.heap.size
      · rw [upd_lt h] at hk; exact hlo k hk
      · omega) hg hlife (by omega) hn 0 (by omega))
  have LD1 := Lib.hid (show ∀ W, Below w.heap.size w W → Calls Try.prog 46 #[.pointer (some ⟨g, 0, none⟩), .int .i64 1] W fun e w' => LdQ W (upd own w.heap.size 0) base g (loadV x c 1) e w' from fun W hW => by
    rw [hc]
    exact load_c (Nat.le_trans hb hW.size) ((hd.bound.keep (Only.of_below hW (fun _ => False)) (fun _ _ h => h)).mono (fun k hk => by rw [upd_lt hk.2.2]; exact hk.1)) (fun k hk => by
      by_cases h : k < w.heap.size
      · rw [upd_lt h] at hk; exact hlo k hk
      · omega) hg hlife (by omega) hn 1 (by omega))
  rw [← hc]
  have hownk : ∀ (own' : Nat → Nat) (W : World), Below w.heap.size w W → (∀ k, k < W.heap.size → own' k = if upd own w.heap.size 0 k = 1 then 1 else 0) → ∀ k, k < w.heap.size → own' k = if own k = 1 then 1 else 0 := fun own' W hW h k hk => by rw [h k (by have := hW.size; omega), upd_lt hk]
  have HK := Lib.hid hownk
  clear hd hg hlo hlife hck hc hownk
  unfold openV
  have A0 : Hid (loadV x c 0 = none → ∀ W, Below w.heap.size w W → Calls Try.prog 46 #[.pointer (some ⟨g, 0, none⟩), .int .i64 0] W fun e w' => e = .returned (.pointer none) ∧ Below W.heap.size W w') := Lib.hid fun h W hW => by
    have h2 := LD0.out W hW
    rw [h] at h2
    exact h2.mono (fun e w' ⟨h3, h4⟩ => ⟨h4, h3⟩)
  have A1 : Hid (loadV x c 1 = none → ∀ W, Below w.heap.size w W → Calls Try.prog 46 #[.pointer (some ⟨g, 0, none⟩), .int .i64 1] W fun e w' => e = .returned (.pointer none) ∧ Below W.heap.size W w') := Lib.hid fun h W hW => by
    have h2 := LD1.out W hW
    rw [h] at h2
    exact h2.mono (fun e w' ⟨h3, h4⟩ => ⟨h4, h3⟩)
  have S0 : Hid (∀ S, loadV x c 0 = some S → ∀ W, Below w.heap.size w W → Calls Try.prog 46 #[.pointer (some ⟨g, 0, none⟩), .int .i64 0] W fun e w' => ∃ s own', e = .returned (.pointer (some ⟨s, 0, none⟩)) ∧ (∀ k, k < w.heap.size → own' k = if own k = 1 then 1 else 0) ∧ St w' own' base g s S ∧ Below W.heap.size W w') := Lib.hid fun S h W hW => by
    have h2 := LD0.out W hW
    rw [h] at h2
    exact h2.mono (fun e w' ⟨h3, s, own', h4, h5, h6⟩ => ⟨s, own', h4, HK.out own' W hW h5, h6, h3⟩)
  have S1 : Hid (∀ S, loadV x c 1 = some S → ∀ W, Below w.heap.size w W → Calls Try.prog 46 #[.pointer (some ⟨g, 0, none⟩), .int .i64 1] W fun e w' => ∃ s own', e = .returned (.pointer (some ⟨s, 0, none⟩)) ∧ (∀ k, k < w.heap.size → own' k = if own k = 1 then 1 else 0) ∧ St w' own' base g s S ∧ Below W.heap.size W w') := Lib.hid fun S h W hW => by
    have h2 := LD1.out W hW
    rw [h] at h2
    exact h2.mono (fun e w' ⟨h3, s, own', h4, h5, h6⟩ => ⟨s, own', h4, HK.out own' W hW h5, h6, h3⟩)
  clear LD0 LD1 HK
  cases h0 : loadV x c 0 with
  | none =>
    have T0 := Lib.hid (A0.out h0)
    cases h1 : loadV x c 1 with
    | none =>
      have T1 := Lib.hid (A1.out h1)
      clear A0 A1 S0 S1 h0 h1
      go_enter Try.func26, Try.ntmps26
      go_wp2_with (first
        | (go_at_call 44; refine RD.out.mono ?_; rintro e w1 ⟨v, rfl, b1⟩; have B1 := Lib.hid b1; clear b1)
        | (go_at_call 45; refine (CO.out _ B1.out).mono ?_; rintro e wz ⟨rfl, hwz⟩; rw [← hwz]; clear hwz)
        | (go_at_call 46; with_reducible refine (T0.out _ B1.out).mono ?_; rintro e w2 ⟨rfl, b2⟩; have B2 := Lib.hid (B1.out.trans (b2.mono B1.out.size)); clear b2 T0)
        | (go_at_call 46; with_reducible refine (T1.out _ B2.out).mono ?_; rintro e w3 ⟨rfl, b3⟩; have B3 := Lib.hid (B2.out.trans (b3.mono B2.out.size)); clear b3)
        | fail)
      go_ret2
      exact ⟨B3.out, rfl⟩
    | some Sb =>
      have T1 := Lib.hid (S1.out Sb h1)
      clear A0 A1 S0 S1 h0 h1
      go_enter Try.func26, Try.ntmps26
      go_upto_region 11 with (first
        | (go_at_call 44; refine RD.out.mono ?_; rintro e w1 ⟨v, rfl, b1⟩; have B1 := Lib.hid b1; clear b1)
        | (go_at_call 45; refine (CO.out _ B1.out).mono ?_; rintro e wz ⟨rfl, hwz⟩; rw [← hwz]; clear hwz)
        | (go_at_call 46; with_reducible refine (T0.out _ B1.out).mono ?_; rintro e w2 ⟨rfl, b2⟩; have B2 := Lib.hid (B1.out.trans (b2.mono B1.out.size)); clear b2 T0)
        | (go_at_call 46; with_reducible refine (T1.out _ B2.out).mono ?_; rintro e w3 ⟨sb, ownb, rfl, q3, s3, b3⟩; have B3 := Lib.hid (B2.out.trans (b3.mono B2.out.size)); have Q3 := Lib.hid q3; have SB := Lib.hid s3; clear b3 q3 s3)
        | fail)
      go_quiet (fail)
      go_wp2_with fail
      go_ret2
      exact ⟨((Only.of_below B3.out (fun _ => False)).drewN _).below_all, sb, ownb, rfl, Q3.out, SB.out.keep0 _⟩
  | some Sa =>
    have T0 := Lib.hid (S0.out Sa h0)
    cases h1 : loadV x c 1 with
    | none =>
      have T1 := Lib.hid (A1.out h1)
      clear A0 A1 S0 S1 h0 h1
      go_enter Try.func26, Try.ntmps26
      go_upto_region 11 with (first
        | (go_at_call 44; refine RD.out.mono ?_; rintro e w1 ⟨v, rfl, b1⟩; have B1 := Lib.hid b1; clear b1)
        | (go_at_call 45; refine (CO.out _ B1.out).mono ?_; rintro e wz ⟨rfl, hwz⟩; rw [← hwz]; clear hwz)
        | (go_at_call 46; with_reducible refine (T0.out _ B1.out).mono ?_; rintro e w2 ⟨sa, owna, rfl, q2, s2, b2⟩; have B2 := Lib.hid (B1.out.trans (b2.mono B1.out.size)); have Q2 := Lib.hid q2; have SA := Lib.hid s2; clear b2 q2 s2 T0)
        | (go_at_call 46; with_reducible refine (T1.out _ B2.out).mono ?_; rintro e w3 ⟨rfl, b3⟩; have B3 := Lib.hid (B2.out.trans (b3.mono B2.out.size)); have C3 := Lib.hid b3; clear b3)
        | fail)
      go_quiet (fail)
      go_wp2_with fail
      go_ret2
      exact ⟨((Only.of_below B3.out (fun _ => False)).drewN _).below_all, sa, upd owna w2.heap.size 0, rfl, fun k hk => by rw [upd_lt (Nat.lt_of_lt_of_le hk B2.out.size)]; exact Q2.out k hk, (SA.out.below C3.out 0).keep0 _⟩
    | some Sb =>
      have T1 := Lib.hid (S1.out Sb h1)
      clear A0 A1 S0 S1 h0 h1
      by_cases hlt : Sa.epoch < Sb.epoch
      · have tlt : decide (Sa.epoch < Sb.epoch) = true := decide_eq_true hlt
        dsimp only
        rw [if_pos hlt]
        go_enter Try.func26, Try.ntmps26
        go_upto_region 11 with (first
          | (go_at_call 44; refine RD.out.mono ?_; rintro e w1 ⟨v, rfl, b1⟩; have B1 := Lib.hid b1; clear b1)
          | (go_at_call 45; refine (CO.out _ B1.out).mono ?_; rintro e wz ⟨rfl, hwz⟩; rw [← hwz]; clear hwz)
          | (go_at_call 46; with_reducible refine (T0.out _ B1.out).mono ?_; rintro e w2 ⟨sa, owna, rfl, q2, s2, b2⟩; have B2 := Lib.hid (B1.out.trans (b2.mono B1.out.size)); have Q2 := Lib.hid q2; have SA := Lib.hid s2; clear b2 q2 s2 T0)
          | (go_at_call 46; with_reducible refine (T1.out _ B2.out).mono ?_; rintro e w3 ⟨sb, ownb, rfl, q3, s3, b3⟩; have B3 := Lib.hid (B2.out.trans (b3.mono B2.out.size)); have C3 := Lib.hid b3; have Q3 := Lib.hid q3; have SB := Lib.hid s3; clear b3 q3 s3)
          | fail)
        have ea := (SA.out.below C3.out 0).epoch_cell
        have eb := SB.out.epoch_cell
        go_quiet (fail)
        go_wp2_with fail
        go_ret2
        exact ⟨((Only.of_below B3.out (fun _ => False)).drewN _).below_all, sb, ownb, rfl, Q3.out, SB.out.keep0 _⟩
      · have tlt : decide (Sa.epoch < Sb.epoch) = false := decide_eq_false hlt
        dsimp only
        rw [if_neg hlt]
        go_enter Try.func26, Try.ntmps26
        go_upto_region 11 with (first
          | (go_at_call 44; refine RD.out.mono ?_; rintro e w1 ⟨v, rfl, b1⟩; have B1 := Lib.hid b1; clear b1)
          | (go_at_call 45; refine (CO.out _ B1.out).mono ?_; rintro e wz ⟨rfl, hwz⟩; rw [← hwz]; clear hwz)
          | (go_at_call 46; with_reducible refine (T0.out _ B1.out).mono ?_; rintro e w2 ⟨sa, owna, rfl, q2, s2, b2⟩; have B2 := Lib.hid (B1.out.trans (b2.mono B1.out.size)); have Q2 := Lib.hid q2; have SA := Lib.hid s2; clear b2 q2 s2 T0)
          | (go_at_call 46; with_reducible refine (T1.out _ B2.out).mono ?_; rintro e w3 ⟨sb, ownb, rfl, q3, s3, b3⟩; have B3 := Lib.hid (B2.out.trans (b3.mono B2.out.size)); have C3 := Lib.hid b3; have Q3 := Lib.hid q3; have SB := Lib.hid s3; clear b3 q3 s3)
          | fail)
        have ea := (SA.out.below C3.out 0).epoch_cell
        have eb := SB.out.epoch_cell
        go_quiet (fail)
        go_wp2_with fail
        go_ret2
        exact ⟨((Only.of_below B3.out (fun _ => False)).drewN _).below_all, sa, upd owna w2.heap.size 0, rfl, fun k hk => by rw [upd_lt (Nat.lt_of_lt_of_le hk B2.out.size)]; exact Q2.out k hk, (SA.out.below C3.out 0).keep0 _⟩
end Go.Proofs.Ytochnokfcfmgnaa.St
end
