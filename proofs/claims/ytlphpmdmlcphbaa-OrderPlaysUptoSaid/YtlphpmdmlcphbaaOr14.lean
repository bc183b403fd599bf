/- Seat E: order.Levels, walked. -/
import Derived.Test.YtlphpmdmlcphbaaOr13
import Derived.Lib.MinMax
namespace Go.Proofs.Ytlphpmdmlcphbaa.Or
open Go Go.RowKit Go.Proofs.Ytlphpmdmlcphbaa.Mem Go.Proofs.YtlphpmdmlcphbaaW.PrintWords Go.Maps Go.Proofs.Ytlphpmdmlcphbaa.Om
set_option linter.unusedVariables false
set_option linter.unusedSimpArgs false
set_option maxRecDepth 100000
set_option maxHeartbeats 400000
/-- A name's level. -/
def kOf (l : List Vo) (lv : ByteArray → Option Nat) (x : ByteArray) : Nat := (uses l x).foldl (fun k u => max k ((lv u).getD 0 + 1)) 0
/-- One name more. -/
def levS (l : List Vo) (s : (ByteArray → Option Nat) × List (List ByteArray)) (x : ByteArray) : (ByteArray → Option Nat) × List (List ByteArray) :=
  (fun y => if y = x then some (kOf l s.1 x) else s.1 y, (if kOf l s.1 x = s.2.length then s.2 ++ [[]] else s.2).set (kOf l s.1 x) ((if kOf l s.1 x = s.2.length then s.2 ++ [[]] else s.2).getD (kOf l s.1 x) [] ++ [x]))
def levs (l : List Vo) (o : List ByteArray) : (ByteArray → Option Nat) × List (List ByteArray) := o.foldl (levS l) (fun _ => none, [])
def LevOk (l : List Vo) (o : List ByteArray) : Prop := ∀ i (hi : i < o.length), kOf l (levs l (o.take i)).1 o[i] ≤ (levs l (o.take i)).2.length
theorem levs_snoc (l : List Vo) (o : List ByteArray) (x : ByteArray) : levs l (o ++ [x]) = levS l (levs l o) x := by simp [levs, List.foldl_append]
theorem levs_len (l : List Vo) : ∀ (n : Nat) (o : List ByteArray), o.length = n → (levs l o).2.length ≤ n ∧ ∀ r ∈ (levs l o).2, r.length ≤ n
  | 0, o, h => by
    have : o = [] := List.length_eq_zero_iff.1 h
    subst this
    exact ⟨Nat.le_refl _, fun r hr => by cases hr⟩
  | n + 1, o, h => by
    obtain ⟨o', x, rfl⟩ := snoc_of (l := o) (by omega)
    have ih := levs_len l n o' (by simpa using h)
    rw [levs_snoc]
    have h1 : ∀ r ∈ (if kOf l (levs l o').1 x = (levs l o').2.length then (levs l o').2 ++ [[]] else (levs l o').2), r.length ≤ n := by
      intro r hr
      split at hr
      · rcases List.mem_append.1 hr with h | h
        · exact ih.2 r h
        · rw [List.mem_singleton.1 h]; exact Nat.zero_le _
      · exact ih.2 r hr
    refine ⟨?_, fun r hr => ?_⟩
    · unfold levS
      rw [List.length_set]
      split
      · simp; exact ih.1
      · omega
    · unfold levS at hr
      rcases List.mem_or_eq_of_mem_set hr with h2 | h2
      · have := h1 r h2; omega
      · rw [h2, List.length_append, List.getD_eq_getElem?_getD]
        cases hg : (if kOf l (levs l o').1 x = (levs l o').2.length then (levs l o').2 ++ [[]] else (levs l o').2)[kOf l (levs l o').1 x]? with
        | none => simp
        | some r' =>
          have := h1 r' (List.mem_of_getElem? hg)
          simp
          omega
theorem fold_ge (lv : ByteArray → Option Nat) : ∀ (us : List ByteArray) (k : Nat), k ≤ us.foldl (fun k u => max k ((lv u).getD 0 + 1)) k
  | [], k => Nat.le_refl _
  | u :: r, k => Nat.le_trans (Nat.le_max_left _ _) (fold_ge lv r _)
theorem fold_take (lv : ByteArray → Option Nat) (us : List ByteArray) (j : Nat) : (us.take j).foldl (fun k u => max k ((lv u).getD 0 + 1)) 0 ≤ us.foldl (fun k u => max k ((lv u).getD 0 + 1)) 0 := by
  conv => rhs; rw [← List.take_append_drop j us, List.foldl_append]
  exact fold_ge lv _ _
theorem OwnS.reads {w : World} {base : Nat} {A : Option Addr} {c : Nat} {l : List ByteArray} (h : OwnS w base (.slice A l.length c) l) : Kd.string.C w A l.length l ∧ l.length ≤ c ∧ Flat A c := by
  obtain ⟨A', c', hv, hc, hC⟩ := Kd.R_reads (Kd.R_of_own (enc := Value.string) (h1 := fun _ => rfl) (ok := fun _ => True) h (fun _ _ => trivial))
  injection hv with hA _ hcc
  subst hA; subst hcc
  refine ⟨hC, hc, ?_⟩
  rcases h.2 with ⟨hv, _⟩ | ⟨g, cap, cur, hv, _⟩
  · injection hv with h1 h2 h3
    exact .inl ⟨h1, h3⟩
  · injection hv with h1 h2 h3
    exact .inr ⟨g, 0, h1⟩
theorem u67 : Try.prog.underlying 67 = some (.map 9 3) := by kernel_rfl
theorem zero3 (w : World) : (zeroValue 3).run Try.prog w = .ok (.int .i64 0) w := by
  have h : (Try.prog.info? 3).map (fun i => i.zero) = some (some (.int .i64 0)) := by kernel_rfl
  cases hi : Try.prog.info? 3 with
  | none => rw [hi] at h; cases h
  | some i => rw [hi] at h; injection h with h; simp [zeroValue, typeInfo, hi, h]
def lvM (lv : ByteArray → Option Nat) : ByteArray → Option Value := fun y => (lv y).map (fun (k : Nat) => Value.int .i64 (k : Int))
theorem lvM_get (lv : ByteArray → Option Nat) (u : ByteArray) : (lvM lv u).getD (.int .i64 0) = .int .i64 (((lv u).getD 0 : Nat) : Int) := by
  unfold lvM
  cases lv u <;> rfl
theorem lvM_set (lv : ByteArray → Option Nat) (x : ByteArray) (k : Nat) : (fun y => if y = x then some (.int .i64 (k : Int)) else lvM lv y) = lvM (fun y => if y = x then some k else lv y) := by
  funext y
  unfold lvM
  by_cases h : y = x
  · simp [h]
  · simp [h]
theorem info23m : (Try.prog.info? 23).map (fun i => (i.zero, i.size, i.bytes)) = some (some (.slice none 0 0), 1, 24) := by kernel_rfl
abbrev slc : Kd SL := Kd.scalar (fun p : SL => Value.slice p.1 p.2.1 p.2.2) (fun _ => rfl)
theorem below_of_grown {w w' : World} {r : Option Nat} {B : Nat} (h : w.grownBy w' r) (hB : B ≤ w.heap.size) (hr : ∀ b, r = some b → B ≤ b) : Below B w w' :=
  ⟨h.os, h.tape, h.output, h.size, fun k hk => h.block k (by omega) (fun e => by have := hr k e.symm; omega)⟩
theorem LV.lower {w : World} {base base' : Nat} {ov : Value} {us : List SL} {outs : List (List ByteArray)} (h : LV w base ov us outs) (hb : base' ≤ base) : LV w base' ov us outs :=
  ⟨own_weaken h.row hb, h.len, fun j hj hk => own_weaken (h.at_ j hj hk) hb, h.sep, h.dis⟩
theorem LV.get {w : World} {base : Nat} {A : Option Addr} {c n : Nat} {us : List SL} {outs : List (List ByteArray)} (h : LV w base (.slice A n c) us outs) (k : Nat) (hk : k < us.length) :
    ∃ g Ai ci xs, A = some ⟨g, 0, none⟩ ∧ n = us.length ∧ us.length ≤ c ∧ base ≤ g ∧ outs[k]? = some xs ∧ us[k] = (Ai, xs.length, ci) ∧ OwnS w base (.slice Ai xs.length ci) xs ∧ w.cell? ⟨g, k, none⟩ = some (.slice Ai xs.length ci) ∧ w.frozen? ⟨g, k, none⟩ = false := by
  have hko : k < outs.length := by have := h.len; omega
  have h1 := h.at_ k hk hko
  obtain ⟨Ai, ci, hv⟩ := OwnS.slice h1
  have hu : us[k] = (Ai, outs[k].length, ci) := by
    have h2 := hv
    injection h2 with e1 e2 e3
    exact Prod.ext e1 (Prod.ext e2 e3)
  rw [hv] at h1
  rcases h.row.2 with ⟨_, h0⟩ | ⟨g, cap, cur, hov, hb, hg, hl, hm, hs, ht⟩
  · omega
  · injection hov with e1 e2 e3
    subst e1; subst e2; subst e3
    obtain ⟨hc1, hc2⟩ := Kd.R_cell ((none, 0, 0) : SL) (Kd.R_of_own (enc := fun p : SL => Value.slice p.1 p.2.1 p.2.2) (h1 := fun _ => rfl) (ok := fun _ => True) (e := 23) (w := w) (base := base) (v := .slice (some ⟨g, 0, none⟩) us.length c) (xs := us) h.row (fun _ _ => trivial)) (k : Int) (by omega) (by omega)
    refine ⟨g, Ai, ci, outs[k], rfl, rfl, hl, hb, List.getElem?_eq_getElem hko, hu, h1, ?_, ?_⟩
    · rw [Int.toNat_natCast] at hc1
      rw [hc1]
      simp [rdOf, hk, hu]
    · rw [Int.toNat_natCast] at hc2
      exact hc2
theorem LV.put {w w5 : World} {base g c : Nat} {us : List SL} {outs : List (List ByteArray)} (h : LV w base (.slice (some ⟨g, 0, none⟩) us.length c) us outs) (k : Nat) (hk : k < us.length) (Ai : Option Addr) (ci : Nat) (xs : List ByteArray) (hu : us[k] = (Ai, xs.length, ci)) (hcell : w.cell? ⟨g, k, none⟩ = some (.slice Ai xs.length ci)) (hfro : w.frozen? ⟨g, k, none⟩ = false) (A5 : Option Addr) (c5 : Nat) (ys : List ByteArray)
    (hg : w.grownBy w5 (Value.slice Ai xs.length ci).ownBlock) (hO : OwnS w5 base (.slice A5 ys.length c5) ys) (hat : (Value.slice A5 ys.length c5).ownBlock = (Value.slice Ai xs.length ci).ownBlock ∨ ∃ b, (Value.slice A5 ys.length c5).ownBlock = some b ∧ w.heap.size ≤ b) :
    (w5.cell? ⟨g, k, none⟩ = some (.slice Ai xs.length ci) ∧ w5.frozen? ⟨g, k, none⟩ = false) ∧ LV (w5.setCell ⟨g, k, none⟩ (.slice A5 ys.length c5)) base (.slice (some ⟨g, 0, none⟩) us.length c) (us.set k (A5, ys.length, c5)) (outs.set k ys) ∧ w5.grownBy (w5.setCell ⟨g, k, none⟩ (.slice A5 ys.length c5)) (some g) := by
  have hsu : sv us[k] = .slice Ai xs.length ci := by rw [hu]
  have hgb : g < w.heap.size := (World.ownsRow.lt h.row g rfl).2
  have hne : (Value.slice Ai xs.length ci).ownBlock ≠ some g := fun e => h.sep k hk g (by rw [hsu]; exact e) rfl
  have hbk : w5.heap[g]? = w.heap[g]? := hg.block g hgb (fun e => hne e.symm)
  have hrow5 := World.ownsRow.kept h.row hg (.inr (fun e => hne e.symm))
  obtain ⟨hr, hgr⟩ := Kd.R_put (Kd.R_of_own (enc := fun p : SL => Value.slice p.1 p.2.1 p.2.2) (h1 := fun _ => rfl) (ok := fun _ => True) (e := 23) (w := w5) (base := base) (v := .slice (some ⟨g, 0, none⟩) us.length c) (xs := us) hrow5 (fun _ _ => trivial)) (k : Int) ((A5, ys.length, c5) : SL)
  rw [Int.toNat_natCast] at hr hgr
  have hr2 := Kd.own_of_R hr
  rw [List.length_set] at hr2
  refine ⟨⟨(World.cell?_of_block (a := ⟨g, k, none⟩) hbk).trans hcell, (World.frozen?_of_block (a := ⟨g, k, none⟩) hbk).trans hfro⟩, ?_, hgr⟩
  exact LV.turn h k hk (A5, ys.length, c5) ys (by rw [hsu]; exact hg) hO (by rw [hsu]; exact hat) (.inr (by rw [hsu]; exact fun e => hne e.symm)) hgr hr2
theorem LV.sort {w w1 : World} {base : Nat} {ov : Value} {us : List SL} {outs : List (List ByteArray)} (h : LV w base ov us outs) (i : Nat) (hi : i < us.length) (ys : List ByteArray) (hg : w.grownBy w1 (sv us[i]).ownBlock) (hO : OwnS w1 base (sv us[i]) ys) : LV w1 base ov us (outs.set i ys) := by
  have hne : ov.ownBlock = none ∨ ov.ownBlock ≠ (sv us[i]).ownBlock := by
    cases hb : (sv us[i]).ownBlock with
    | none => cases ho : ov.ownBlock <;> simp
    | some b => exact .inr (h.sep i hi b hb)
  have h2 := LV.turn (w' := w1) h i hi us[i] ys hg hO (.inl rfl) hne ⟨rfl, rfl, rfl, Nat.le_refl _, fun _ _ _ => rfl⟩ (by rw [List.set_getElem_self]; exact World.ownsRow.kept h.row hg hne)
  rwa [List.set_getElem_self] at h2
def mix (outs : List (List ByteArray)) (i : Nat) : List (List ByteArray) := (outs.take i).map msort ++ outs.drop i
theorem mix_at (outs : List (List ByteArray)) (i : Nat) : (mix outs i)[i]? = outs[i]? := by
  unfold mix
  by_cases hi : i ≤ outs.length
  · rw [List.getElem?_append_right (by simp; omega)]
    simp [Nat.min_eq_left hi]
  · rw [List.getElem?_eq_none (by simp; omega), List.getElem?_eq_none (by omega)]
theorem mix_set (outs : List (List ByteArray)) (i : Nat) (xs : List ByteArray) (h : outs[i]? = some xs) : (mix outs i).set i (msort xs) = mix outs (i + 1) := by
  obtain ⟨hi, hx⟩ := List.getElem?_eq_some_iff.1 h
  unfold mix
  rw [List.set_append_right _ _ (by simp; omega), List.drop_eq_getElem_cons hi, List.take_succ_eq_append_getElem hi, List.map_append, hx]
  simp [Nat.min_eq_left (Nat.le_of_lt hi)]
theorem Levels_c (A : Option Addr) (c : Nat) (l : List Vo) (w : World) (hC : VC w A l) (hc : l.length ≤ c) (hF : Fine l) (o : List ByteArray) (x : ByteArray) (e : Int) (hr : sortV l (l.map (·.1)) [] = some (o, x, e)) (hlev : e = 0 → LevOk l o) (hos : (∀ u ∈ o, u.size ≤ maxLen) ∧ o.length ≤ 16777216) :
    Calls Try.prog 14 #[.slice A l.length c] w fun en w' => ∃ ov, en = .returned (.tuple #[ov, .int .i64 e]) ∧ (∃ us, LV w' w.heap.size ov us (if e = 0 then (levs l o).2.map msort else [])) ∧ Below w.heap.size w w' := by
  have HCL := Lib.hid hC
  have HF := Lib.hid hF
  have HR := Lib.hid hr
  have HC := Lib.hid hc
  have HLV := Lib.hid hlev
  have HOS := Lib.hid hos
  have hll : (l.length : Int) ≤ 4194304 := by have := hF.2.2; omega
  have hmm := @run_makeMap Try.prog
  clear hC hF hr hc hlev hos
  go_enter Try.func14, Try.ntmps14
  go_wp2_with fail
  go_loopg [4, 22] l.length (fun mm bv iv wr => ∃ (k : Nat) (Bk : List ByteArray) (Ab : Option Addr) (cb : Nat), iv = .int .i64 k ∧ bv = .slice Ab Bk.length cb ∧ Aside1 (k + mm = l.length ∧ (l.take k).map (·.1) = Bk) ∧ Aside1 (OwnS wr w.heap.size (.slice Ab Bk.length cb) Bk) ∧ Aside1 (Below w.heap.size w wr))
  case atStart => exact ⟨0, [], none, 0, rfl, rfl, ⟨by omega, rfl⟩, ⟨World.ownsRow_nil _ _ _ _⟩, ⟨Below.refl _ _⟩⟩
  case round =>
    obtain ⟨k, Bk, Ab, cb, rfl, rfl, ⟨hkm, hBk⟩, ⟨hO⟩, ⟨hB⟩⟩ := hrel
    have KM := Lib.hid hkm
    have BK := Lib.hid hBk
    have O := Lib.hid hO
    have B := Lib.hid hB
    have hkl : (k : Int) ≤ 4194304 := by omega
    clear hkm hBk hO hB
    by_cases hk : k < l.length
    · have hki : (k : Int) < (l.length : Int) := by omega
      obtain ⟨ad, Au, cu, rfl, e1, e2, hCu, hcu, hfl⟩ := HCL.out k hk
      obtain ⟨name, us, hlk⟩ : ∃ name us, l[k] = (name, us) := ⟨_, _, rfl⟩
      rw [hlk] at e1 e2 hCu hcu
      dsimp only at e1 e2 hCu hcu
      have h1 := (B.out.cell (World.block_lt_of_cell? _ _ e1)).trans e1
      have h2 := (B.out.cell (p := ⟨(ad.add (k * 2)).block, (ad.add (k * 2)).off + 1, none⟩) (World.block_lt_of_cell? _ _ e2)).trans e2
      have HLK := Lib.hid hlk
      clear e1 e2 hCu hcu hlk
      go_wp2_with (first
        | ((with_reducible refine gate_builtin (b := .append) (xs := #[.tmp 26, .tmp 29]) rfl ?_); at_builtin; go_loud (refine Kd.R_append Kd.string (w0 := w) (W := wr.alloc (.cells #[.string name, .slice Au us.length cu] 41)) w.heap.size rfl (.tmp 26) (.tmp 29) 23 9 (.string ByteArray.empty) 16 rfl (by kernel_rfl) info9m rfl (by decide) (by decide) (.slice Ab Bk.length cb) Bk name [.string name] (fun _ => True) (fun _ => False) rfl (by rw [World.size_alloc]; rfl) rfl (fun _ h => h.elim) (fun _ _ => trivial) (Kd.R_of_own (World.ownsRow.alloc O.out _) (fun _ _ => trivial)) (B.out.alloc B.out.size _) (by have := B.out.size; simp; omega) (by rw [← BK.out]; simp; omega) ?_); intro v4 w4 r4 b4 g4 at4
           obtain ⟨A4, c4, rfl⟩ := Kd.R_slice r4
           have O4 := Lib.hid (show OwnS w4 w.heap.size (.slice A4 (Bk ++ [name]).length c4) (Bk ++ [name]) from Kd.own_of_R r4)
           have B4 := Lib.hid b4
           clear r4 b4 g4 at4)
        | fail)
      go_roundg (gk - 1)
      case measure => have := KM.out; omega
      case rel => exact ⟨k + 1, Bk ++ [name], A4, c4, (by simp), (by simp), ⟨by have := KM.out; omega, by rw [List.take_succ_eq_append_getElem hk, List.map_append, BK.out, HLK.out]; rfl⟩, ⟨O4.out⟩, ⟨B4.out⟩⟩
    · have hki : ¬ (k : Int) < (l.length : Int) := by omega
      have hBl : l.map (·.1) = Bk := by rw [← BK.out, List.take_of_length_le (by omega)]
      obtain ⟨hCB, hcB, hfB⟩ := OwnS.reads O.out
      have SO := Lib.hid (Sort_c A c l Ab cb Bk none 0 [] wr (HCL.out.below B.out) HC.out HF.out hCB hcB hfB (by
        rw [← hBl]
        refine ⟨fun u hu => ?_, by rw [List.length_map]; exact HF.out.2.2⟩
        obtain ⟨v, hv, rfl⟩ := List.mem_map.1 hu
        exact (HF.out.1 v hv).1) (Kd.C_nil Kd.string _) (Nat.le_refl _) ⟨fun u hu => absurd hu List.not_mem_nil, Nat.zero_le _⟩ o x e (by rw [← hBl]; exact HR.out))
      clear hBl hCB hcB hfB HR
      by_cases he : e = 0
      · subst he
        have LOK := Lib.hid (HLV.out rfl)
        clear HLV
        go_wp2_with (first
          | (go_at_call 8; go_loud (refine SO.out.mono ?_); rintro en w1 ⟨v1, rfl, o1, b1⟩
             obtain ⟨As, cs, rfl⟩ := OwnS.slice o1
             have O1 := Lib.hid o1
             have B1 := Lib.hid b1
             have OF := Lib.hid (of_c A c l none 0 [] w1 (HCL.out.below (B.out.trans (b1.mono B.out.size))) HC.out HF.out (Kd.C_nil Kd.string _) (Nat.le_refl _) ⟨fun u hu => absurd hu List.not_mem_nil, Nat.zero_le _⟩)
             clear b1 o1)
          | (go_at_call 18; go_loud (refine OF.out.mono ?_); rintro en w2 ⟨g, mu, mh, m, rfl, hg, hU, hUM, hM, hz1, hz2, hz3, hne, b2⟩
             have G2 := Lib.hid hg
             have U2 := Lib.hid hU
             have UM2 := Lib.hid hUM
             have B2 := Lib.hid b2
             have BB2 := Lib.hid ((B.out.trans (B1.out.mono B.out.size)).trans (b2.mono (Nat.le_trans B.out.size B1.out.size)))
             clear hg hU hUM hM hz1 hz2 hz3 hne b2)
          | fail)
        have hoi : (o.length : Int) ≤ 16777216 := by have := HOS.out.2; omega
        have LV0 := Lib.hid (LV.nil (w2.alloc (.map #[] 0)) w2.heap.size)
        have MM0 := Lib.hid (show Mp (w2.alloc (.map #[] 0)) w2.heap.size 0 (lvM (fun _ => none)) from Mp.made w2)
        have BA0 := Lib.hid ((Below.refl _ w2).alloc (Nat.le_refl _) (.map #[] 0))
        have hCo := Lib.hid (Kd.C_below (OwnS.reads O1.out).1 B2.out)
        obtain ⟨wm, hwm⟩ : ∃ wm, wm = w2.alloc (.map #[] 0) := ⟨_, rfl⟩
        rw [← hwm] at LV0 MM0 BA0 ⊢
        clear hwm hmm SO OF
        obtain ⟨wo, hwo⟩ : ∃ wo, wo = wr := ⟨_, rfl⟩
        subst hwo
        go_loopg [12, 47] o.length (fun mm ov iv wr => ∃ (i : Nat) (us : List SL) (Ao : Option Addr) (co : Nat), iv = .int .i64 i ∧ ov = .slice Ao us.length co ∧ Aside1 (i + mm = o.length) ∧ Aside1 (LV wr w2.heap.size (.slice Ao us.length co) us (levs l (o.take i)).2) ∧ Aside1 (Mp wr w2.heap.size i (lvM (levs l (o.take i)).1)) ∧ Aside1 (Below w2.heap.size w2 wr))
        case atStart => exact ⟨0, [], none, 0, rfl, rfl, ⟨by omega⟩, ⟨LV0.out⟩, ⟨MM0.out⟩, ⟨BA0.out⟩⟩
        case round =>
          obtain ⟨i, us, Ao, co, rfl, rfl, ⟨hi⟩, ⟨hLV⟩, ⟨hMM⟩, ⟨hB⟩⟩ := hrel
          have HI := Lib.hid hi
          have L := Lib.hid hLV
          have MM := Lib.hid hMM
          have BR := Lib.hid hB
          clear hi hLV hMM hB LV0 MM0 BA0
          have hii0 : (i : Int) ≤ 16777216 := by have := HI.out; omega
          by_cases hil : i < o.length
          · have hii : (i : Int) < (o.length : Int) := by omega
            obtain ⟨ad, hAd, ex⟩ := name_at (Kd.C_below hCo.out BR.out) rfl i hil
            obtain ⟨y, hy⟩ : ∃ y, o[i] = y := ⟨_, rfl⟩
            rw [hy] at ex
            subst hAd
            have hys : y.size ≤ maxLen := HOS.out.1 y (hy ▸ List.getElem_mem hil)
            have HY := Lib.hid hy
            have Gr : Blk wr g 71 [.map (some mu), .map (some mh)] := G2.out.below BR.out G2.out.lt
            have g0 := Gr.cell_at 0 _ rfl
            obtain ⟨Ax, cx, hvx, hCx, hcx, hflx⟩ := UM2.out.get y
            have hl3 := (U2.out.below BR.out U2.out.lt).look Or.u68 (zero23 _) y hys
            rw [hvx] at hl3
            have HCX := Lib.hid (Kd.C_below hCx (B2.out.trans (BR.out.mono B2.out.size)))
            have USZ := Lib.hid (uses_size HF.out y)
            obtain ⟨lv, outs, hst⟩ : ∃ lv outs, levs l (o.take i) = (lv, outs) := ⟨_, _, rfl⟩
            rw [hst] at L MM
            dsimp only at L MM
            have hko : Hid (kOf l lv y ≤ outs.length) := Lib.hid (by have h := LOK.out i hil; rw [hst, hy] at h; exact h)
            have hlen := levs_len l i (o.take i) (by simp; omega)
            rw [hst] at hlen
            have HLEN := Lib.hid hlen
            have HST := Lib.hid hst
            obtain ⟨xs, hxs⟩ : ∃ xs, xs = uses l y := ⟨_, rfl⟩
            have hkf : kOf l lv y = xs.foldl (fun k u => max k ((lv u).getD 0 + 1)) 0 := by rw [hxs]; rfl
            have HKF := Lib.hid hkf
            have hul : (xs.length : Int) ≤ 4194304 := by have h1 := uses_len l y; have h2 := HF.out.2.1; rw [← hxs] at h1; omega
            rw [← hxs] at hvx hcx hl3 HCX USZ
            obtain ⟨go, hgo⟩ : ∃ go, go = gk := ⟨_, rfl⟩
            subst hgo
            obtain ⟨wq, hwq⟩ : ∃ wq, wq = wr := ⟨_, rfl⟩
            subst hwq
            clear hCx hvx hy hst hlen hkf hxs Gr
            go_wp2_with fail
            go_loopg [15, 58] xs.length (fun mm kv jv wr => ∃ (j k : Nat), jv = .int .i64 j ∧ kv = .int .i64 k ∧ wr = wq ∧ Aside1 (j + mm = xs.length ∧ (xs.take j).foldl (fun k u => max k ((lv u).getD 0 + 1)) 0 = k))
            case atStart => exact ⟨0, 0, rfl, rfl, rfl, ⟨by omega, rfl⟩⟩
            case round =>
              obtain ⟨j, k, rfl, rfl, hwz, ⟨hj, hk⟩⟩ := hrel
              rw [hwz]
              clear hwz
              have HJ := Lib.hid hj
              have HK := Lib.hid hk
              clear hj hk
              by_cases hjl : j < xs.length
              · have hji : (j : Int) < (xs.length : Int) := by omega
                obtain ⟨au, hAu, eu⟩ := name_at HCX.out rfl j hjl
                obtain ⟨u, hu⟩ : ∃ u, xs[j] = u := ⟨_, rfl⟩
                rw [hu] at eu
                subst hAu
                have hus' : u.size ≤ maxLen := USZ.out u (hu ▸ List.getElem_mem hjl)
                have hl4 := MM.out.look Or.u67 (zero3 _) u hus'
                rw [lvM_get] at hl4
                have hst2 : (xs.take (j + 1)).foldl (fun k u => max k ((lv u).getD 0 + 1)) 0 = max k ((lv u).getD 0 + 1) := by
                  rw [List.take_succ_eq_append_getElem hjl, hu, List.foldl_append, HK.out]
                  rfl
                obtain ⟨n, hn⟩ : ∃ n, (lv u).getD 0 = n := ⟨_, rfl⟩
                rw [hn] at hl4 hst2
                have hnb : (n : Int) ≤ 16777216 := by
                  have h1 := fold_take lv xs (j + 1)
                  rw [hst2] at h1
                  have h2 := hko.out
                  rw [HKF.out] at h2
                  have h3 := HLEN.out.1
                  omega
                have HS2 := Lib.hid hst2
                clear hu hn hst2
                go_wp2_with fail
                go_roundg (gk - 1)
                case measure => have := HJ.out; omega
                case rel => exact ⟨j + 1, max k (n + 1), (by simp), (by first | rfl | (congr 1; omega)), rfl, ⟨by have := HJ.out; omega, HS2.out⟩⟩
              · have hji : ¬ (j : Int) < (xs.length : Int) := by omega
                have hkk : kOf l lv y = k := by rw [HKF.out, ← HK.out, List.take_of_length_le (by omega)]
                have HKK := Lib.hid hkk
                clear hkk
                have hn5 : i < maxLen := by unfold maxLen; omega
                obtain ⟨w3, hrun3, hm3, ho3⟩ := MM.out.update Or.u67 hn5 y hys (.int .i64 (k : Int))
                rw [lvM_set] at hm3
                have M3 := Lib.hid hm3
                have L3 := Lib.hid (LV.only L.out MM.out ho3)
                have B3 := Lib.hid (((Only.of_below BR.out (fun k => k = w2.heap.size)).step ho3 (fun _ _ h => h)).below (B := w2.heap.size) (Nat.le_refl _) (fun q hq h => by omega))
                have hst' : levS l (lv, outs) y = (fun z => if z = y then some k else lv z, (if k = outs.length then outs ++ [[]] else outs).set k ((if k = outs.length then outs ++ [[]] else outs).getD k [] ++ [y])) := by
                  unfold levS
                  dsimp only
                  rw [HKK.out]
                have HST2 := Lib.hid hst'
                have hko2 : k ≤ outs.length := by rw [← HKK.out]; exact hko.out
                have hlen := L.out.len
                clear hm3 ho3 hst'
                by_cases hke : k = us.length
                · have hif : (if k = outs.length then outs ++ [[]] else outs) = outs ++ [[]] := if_pos (by omega)
                  have HIF := Lib.hid hif
                  subst hke
                  clear hif hlen hko2
                  have XL : Hid (∀ r ∈ outs ++ [[]], r.length ≤ 16777216) := Lib.hid (fun r hr => by
                    rcases List.mem_append.1 hr with h | h
                    · have := HLEN.out.2 r h; omega
                    · rw [List.mem_singleton.1 h]; exact Nat.zero_le _)
                  go_wp2_with (first
                    | ((with_reducible refine gate_builtin (b := .append) (xs := #[.tmp 76, .tmp 77]) rfl ?_); at_builtin; go_loud (refine Kd.R_append slc (w0 := w3) (W := w3) w2.heap.size rfl (.tmp 76) (.tmp 77) 37 23 (.slice none 0 0) 24 rfl (by kernel_rfl) info23m rfl (by decide) (by decide) (.slice Ao us.length co) us ((none, 0, 0) : SL) [.slice none 0 0] (fun _ => True) (fun _ => False) rfl rfl rfl (fun _ h => h.elim) (fun _ _ => trivial) (Kd.R_of_own L3.out.row (fun _ _ => trivial)) (Below.refl _ _) B3.out.size (by have := HLEN.out.1; have := L3.out.len; omega) ?_); intro v4 w4 r4 b4 g4 at4
                       go_loud (obtain ⟨A4, c4, rfl⟩ := Kd.R_slice r4)
                       have hr4 := Kd.own_of_R r4
                       have M4 := Lib.hid (M3.out.step (Only.of_grown g4) (fun h => row_ne_map L3.out.row M3.out h.symm))
                       have B4 := Lib.hid (B3.out.trans b4)
                       go_loud (have hl4 := LV.push L3.out g4 (by have h := hr4; have e : (us ++ [((none, 0, 0) : SL)]).length = us.length + 1 := (by simp); rw [e] at h ⊢; exact h) at4)
                       have HKA : Hid (us.length < (us ++ [((none, 0, 0) : SL)]).length) := Lib.hid (by simp)
                       obtain ⟨us4, hus4⟩ : ∃ us4, us4 = us ++ [((none, 0, 0) : SL)] := ⟨_, rfl⟩
                       obtain ⟨outs4, houts4⟩ : ∃ outs4, outs4 = outs ++ [[]] := ⟨_, rfl⟩
                       go_loud (rw [← hus4, ← houts4] at hl4)
                       go_loud (rw [← hus4] at HKA ⊢)
                       have HIF := Lib.hid (HIF.out.trans houts4.symm)
                       go_loud (rw [← houts4] at XL)
                       have L4 := Lib.hid hl4
                       clear r4 b4 g4 at4 hr4 hl4 hus4 houts4
                       obtain ⟨gr, Ai, ci, xi, hA4, _, hlc, hgb, hoi2, hui, hOi, hci, hfi⟩ := LV.get L4.out us.length HKA.out
                       subst hA4
                       have OI := Lib.hid hOi
                       have UI := Lib.hid hui
                       have CI := Lib.hid hci
                       have FI := Lib.hid hfi
                       have GB := Lib.hid hgb
                       have OX := Lib.hid hoi2
                       have XIL : Hid (xi.length ≤ 16777216) := Lib.hid (XL.out xi (List.mem_of_getElem? hoi2))
                       clear hOi hui hfi hgb hoi2)
                    | ((with_reducible refine gate_builtin (b := .append) (xs := #[.tmp 84, .tmp 86]) rfl ?_); at_builtin; go_loud (refine Kd.R_append Kd.string (w0 := w4) (W := w4) w2.heap.size rfl (.tmp 84) (.tmp 86) 23 9 (.string ByteArray.empty) 16 rfl (by kernel_rfl) info9m rfl (by decide) (by decide) (.slice Ai xi.length ci) xi y [.string y] (fun _ => True) (fun _ => False) rfl rfl rfl (fun _ h => h.elim) (fun _ _ => trivial) (Kd.R_of_own OI.out (fun _ _ => trivial)) (Below.refl _ _) B4.out.size (by have := XIL.out; omega) ?_); intro v5 w5 r5 b5 g5 at5
                       obtain ⟨A5, c5, rfl⟩ := Kd.R_slice r5
                       have O5 : OwnS w5 w2.heap.size (.slice A5 (xi ++ [y]).length c5) (xi ++ [y]) := Kd.own_of_R r5
                       obtain ⟨⟨hc5, hf5⟩, hL6, hG6⟩ := LV.put L4.out us.length HKA.out Ai ci xi UI.out CI.out FI.out A5 c5 (xi ++ [y]) g5 O5 at5
                       have hle : (xi ++ [y]).length = xi.length + 1 := by simp
                       rw [hle] at hL6 hG6
                       have M5 := M4.out.step (Only.of_grown g5) (fun h => row_ne_map OI.out M4.out h.symm)
                       have hgm : gr ≠ w2.heap.size := fun e => row_ne_map L4.out.row M4.out (by rw [e]; rfl)
                       have M6 := Lib.hid (M5.setCell (p := ⟨gr, us.length, none⟩) hgm (.slice A5 (xi.length + 1) c5))
                       have L6 := Lib.hid hL6
                       have B6 := Lib.hid ((B4.out.trans b5).trans (below_of_grown hG6 (Nat.le_trans B4.out.size b5.size) (fun b e => by injection e with e; rw [← e]; exact GB.out)))
                       clear r5 b5 g5 at5 O5 hL6 hG6 M5 hgm hle)
                    | fail)
                  go_roundg (go - 1)
                  case measure => have := HI.out; omega
                  case rel => exact ⟨i + 1, us4.set us.length (A5, xi.length + 1, c5), some ⟨gr, 0, none⟩, c4, (by simp), (by simp), ⟨by have := HI.out; omega⟩, ⟨by
                    have h := L6.out
                    rw [List.length_set, List.take_succ_eq_append_getElem hil, HY.out, levs_snoc, HST.out, HST2.out]
                    dsimp only
                    rw [HIF.out]
                    rw [show outs4.getD us.length [] = xi by rw [List.getD_eq_getElem?_getD, OX.out]; rfl]
                    exact h⟩, ⟨by
                    have h := M6.out
                    rw [List.take_succ_eq_append_getElem hil, HY.out, levs_snoc, HST.out, HST2.out]
                    dsimp only
                    exact h⟩, ⟨B6.out⟩⟩
                · have hif : (if k = outs.length then outs ++ [[]] else outs) = outs := if_neg (by omega)
                  have HIF := Lib.hid hif
                  have hku : k < us.length := by omega
                  have hkei : ¬ (k : Int) = (us.length : Int) := by omega
                  have HKA := Lib.hid hku
                  have XL : Hid (∀ r ∈ outs, r.length ≤ 16777216) := Lib.hid (fun r hr => by have := HLEN.out.2 r hr; omega)
                  have L4 := L3
                  have M4 := M3
                  have B4 := B3
                  obtain ⟨w4, hw4⟩ : ∃ w4, w4 = w3 := ⟨_, rfl⟩
                  obtain ⟨us4, hus4⟩ : ∃ us4, us4 = us := ⟨_, rfl⟩
                  obtain ⟨outs4, houts4⟩ : ∃ outs4, outs4 = outs := ⟨_, rfl⟩
                  subst hw4
                  subst hus4
                  subst houts4
                  clear hif hlen hko2
                  obtain ⟨gr, Ai, ci, xi, hA4, _, hlc, hgb, hoi2, hui, hOi, hci, hfi⟩ := LV.get L4.out k HKA.out
                  subst hA4
                  have OI := Lib.hid hOi
                  have UI := Lib.hid hui
                  have CI := Lib.hid hci
                  have FI := Lib.hid hfi
                  have GB := Lib.hid hgb
                  have OX := Lib.hid hoi2
                  have XIL : Hid (xi.length ≤ 16777216) := Lib.hid (XL.out xi (List.mem_of_getElem? hoi2))
                  clear hOi hui hfi hgb hoi2
                  go_wp2_with (first
                    | ((with_reducible refine gate_builtin (b := .append) (xs := #[.tmp 84, .tmp 86]) rfl ?_); at_builtin; go_loud (refine Kd.R_append Kd.string (w0 := w4) (W := w4) w2.heap.size rfl (.tmp 84) (.tmp 86) 23 9 (.string ByteArray.empty) 16 rfl (by kernel_rfl) info9m rfl (by decide) (by decide) (.slice Ai xi.length ci) xi y [.string y] (fun _ => True) (fun _ => False) rfl rfl rfl (fun _ h => h.elim) (fun _ _ => trivial) (Kd.R_of_own OI.out (fun _ _ => trivial)) (Below.refl _ _) B4.out.size (by have := XIL.out; omega) ?_); intro v5 w5 r5 b5 g5 at5
                       obtain ⟨A5, c5, rfl⟩ := Kd.R_slice r5
                       have O5 : OwnS w5 w2.heap.size (.slice A5 (xi ++ [y]).length c5) (xi ++ [y]) := Kd.own_of_R r5
                       obtain ⟨⟨hc5, hf5⟩, hL6, hG6⟩ := LV.put L4.out k HKA.out Ai ci xi UI.out CI.out FI.out A5 c5 (xi ++ [y]) g5 O5 at5
                       have hle : (xi ++ [y]).length = xi.length + 1 := by simp
                       rw [hle] at hL6 hG6
                       have M5 := M4.out.step (Only.of_grown g5) (fun h => row_ne_map OI.out M4.out h.symm)
                       have hgm : gr ≠ w2.heap.size := fun e => row_ne_map L4.out.row M4.out (by rw [e]; rfl)
                       have M6 := Lib.hid (M5.setCell (p := ⟨gr, k, none⟩) hgm (.slice A5 (xi.length + 1) c5))
                       have L6 := Lib.hid hL6
                       have B6 := Lib.hid ((B4.out.trans b5).trans (below_of_grown hG6 (Nat.le_trans B4.out.size b5.size) (fun b e => by injection e with e; rw [← e]; exact GB.out)))
                       clear r5 b5 g5 at5 O5 hL6 hG6 M5 hgm hle)
                    | fail)
                  go_roundg (go - 1)
                  case measure => have := HI.out; omega
                  case rel => exact ⟨i + 1, us4.set k (A5, xi.length + 1, c5), some ⟨gr, 0, none⟩, co, (by simp), (by simp), ⟨by have := HI.out; omega⟩, ⟨by
                    have h := L6.out
                    rw [List.length_set, List.take_succ_eq_append_getElem hil, HY.out, levs_snoc, HST.out, HST2.out]
                    dsimp only
                    rw [HIF.out]
                    rw [show outs4.getD k [] = xi by rw [List.getD_eq_getElem?_getD, OX.out]; rfl]
                    exact h⟩, ⟨by
                    have h := M6.out
                    rw [List.take_succ_eq_append_getElem hil, HY.out, levs_snoc, HST.out, HST2.out]
                    dsimp only
                    exact h⟩, ⟨B6.out⟩⟩
          · have hii : ¬ (i : Int) < (o.length : Int) := by omega
            rw [List.take_of_length_le (by omega)] at L
            obtain ⟨outs, hout⟩ : ∃ outs, outs = (levs l o).2 := ⟨_, rfl⟩
            have hlen := levs_len l o.length o rfl
            rw [← hout] at L hlen
            have HLEN := Lib.hid hlen
            have HOUT := Lib.hid hout
            have LM := Lib.hid (show LV wr w2.heap.size (.slice Ao us.length co) us (mix outs 0) from L.out)
            have husl : (us.length : Int) ≤ 16777216 := by have h1 := L.out.len; have h2 := hlen.1; have h3 := HOS.out.2; omega
            clear hlen hout
            obtain ⟨wq, hwq⟩ : ∃ wq, wq = wr := ⟨_, rfl⟩
            subst hwq
            go_wp2_with fail
            go_loopg [92] us.length (fun mm iv wr => ∃ i : Nat, iv = .int .i64 i ∧ Aside1 (i + mm = us.length) ∧ Aside1 (LV wr w2.heap.size (.slice Ao us.length co) us (mix outs i)) ∧ Aside1 (Below w2.heap.size w2 wr))
            case atStart => exact ⟨0, rfl, ⟨by omega⟩, ⟨LM.out⟩, ⟨BR.out⟩⟩
            case round =>
              obtain ⟨j, rfl, ⟨hj⟩, ⟨hL⟩, ⟨hB⟩⟩ := hrel
              have HJ := Lib.hid hj
              have L2 := Lib.hid hL
              have B5 := Lib.hid hB
              clear hj hL hB LM BR
              by_cases hjl : j < us.length
              · have hji : (j : Int) < (us.length : Int) := by omega
                obtain ⟨gr, Ai, ci, xi, hA4, _, hlc, hgb, hoi2, hui, hOi, hci, hfi⟩ := LV.get L2.out j hjl
                subst hA4
                have hxi : outs[j]? = some xi := by rw [← mix_at]; exact hoi2
                have hxl : xi.length ≤ 16777216 := by have h1 := HLEN.out.2 xi (List.mem_of_getElem? hxi); have h2 := HOS.out.2; omega
                have HXI := Lib.hid hxi
                have HUI := Lib.hid hui
                have SO := Lib.hid (sort_own w2.heap.size _ xi wr hOi hxl)
                have HGI := Lib.hid hOi
                clear hoi2 hui hOi hxi hgb hfi
                go_wp2_with (first
                  | (go_at_call 30; go_loud (refine SO.out.mono ?_); rintro en w5 ⟨rfl, o5, g5⟩
                     have hsu : sv us[j] = .slice Ai xi.length ci := by rw [HUI.out]
                     have hl5 := LV.sort L2.out j hjl (msort xi) (by rw [hsu]; exact g5) (by rw [hsu]; exact o5)
                     rw [mix_set outs j xi HXI.out] at hl5
                     have L5 := Lib.hid hl5
                     have B6 := Lib.hid (B5.out.trans (below_of_grown g5 B5.out.size (fun b e => (World.ownsRow.lt HGI.out b e).1)))
                     clear o5 g5 hsu hl5)
                  | fail)
                go_roundg (gk - 1)
                case measure => have := HJ.out; omega
                case rel => exact ⟨j + 1, (by simp), ⟨by have := HJ.out; omega⟩, ⟨L5.out⟩, ⟨B6.out⟩⟩
              · have hji : ¬ (j : Int) < (us.length : Int) := by omega
                have hmx : mix outs j = (levs l o).2.map msort := by
                  have h1 := L.out.len
                  rw [← HOUT.out]
                  unfold mix
                  rw [List.take_of_length_le (by omega), List.drop_of_length_le (by omega), List.append_nil]
                have HMX := Lib.hid hmx
                clear hmx
                go_wp2_with fail
                go_ret2
                exact ⟨_, rfl, ⟨us, by have h := L2.out; rw [HMX.out] at h; exact LV.lower h BB2.out.size⟩, BB2.out.trans (B5.out.mono BB2.out.size)⟩
      · clear HLV
        go_wp2_with (first
          | (go_at_call 8; go_loud (refine SO.out.mono ?_); rintro en w1 ⟨v1, rfl, o1, b1⟩; have B1 := Lib.hid b1; clear b1 o1)
          | fail)
        go_ret2
        exact ⟨_, rfl, ⟨[], by first | exact LV.nil _ _ | (rw [if_neg he]; exact LV.nil _ _)⟩, B.out.trans (B1.out.mono B.out.size)⟩
end Go.Proofs.Ytlphpmdmlcphbaa.Or
