/- Seat E: plain: what comes of Sort. -/
import Derived.Test.YtlphpmdmlcphbaaOr18
namespace Go.Proofs.Ytlphpmdmlcphbaa.Or
open Go Go.RowKit Go.Proofs.Ytlphpmdmlcphbaa.Mem Go.Proofs.YtlphpmdmlcphbaaW.PrintWords Go.Maps Go.Proofs.Ytlphpmdmlcphbaa.Om
set_option linter.unusedVariables false
set_option linter.unusedSimpArgs false
set_option maxRecDepth 100000
set_option maxHeartbeats 400000
noncomputable def cnt (p : ByteArray → Prop) (l : List ByteArray) : Nat := by
  classical exact (l.filter (fun x => decide (p x))).length
theorem cnt_lt {p q : ByteArray → Prop} (h : ∀ x, p x → q x) (u : ByteArray) (hq : q u) (hp : ¬ p u) : ∀ (l : List ByteArray), u ∈ l → cnt p l < cnt q l := by
  have hle : ∀ l, cnt p l ≤ cnt q l := by
    intro l
    unfold cnt
    induction l with
    | nil => exact Nat.le_refl _
    | cons x r ih =>
      rw [List.filter_cons, List.filter_cons]
      by_cases h1 : p x
      · rw [if_pos (by simpa using h1), if_pos (by simpa using h x h1)]
        simpa using ih
      · rw [if_neg (by simpa using h1)]
        split
        · simp; omega
        · exact ih
  intro l hu
  induction l with
  | nil => cases hu
  | cons x r ih =>
    have hr := hle r
    unfold cnt at hr ih ⊢
    rw [List.filter_cons, List.filter_cons]
    by_cases hx : u = x
    · subst hx
      rw [if_neg (by simpa using hp), if_pos (by simpa using hq)]
      simp; omega
    · have h2 := ih (by rcases List.mem_cons.1 hu with h | h; exact absurd h hx; exact h)
      by_cases h1 : p x
      · rw [if_pos (by simpa using h1), if_pos (by simpa using h x h1)]
        simpa using h2
      · rw [if_neg (by simpa using h1)]
        split
        · simp; omega
        · exact h2
theorem pick_spec (l : List Vo) (D : List ByteArray) : ∀ (all : List ByteArray), all.Pairwise (fun x y => toL x ≤ toL y) → (∃ m ∈ all, Rdy l D m) → ∃ x, pick l D all = some x ∧ x ∈ all ∧ Rdy l D x ∧ ∀ m ∈ all, Rdy l D m → toL x ≤ toL m
  | [], _, ⟨m, hm, _⟩ => by cases hm
  | x :: r, hp, ⟨m, hm, hr⟩ => by
    unfold pick
    by_cases h : Rdy l D x
    · rw [if_pos h]
      refine ⟨x, rfl, by simp, h, fun m hm _ => ?_⟩
      rcases List.mem_cons.1 hm with e | hm
      · rw [e]; exact List.le_refl _
      · exact (List.pairwise_cons.1 hp).1 m hm
    · rw [if_neg h]
      have hm' : m ∈ r := by
        rcases List.mem_cons.1 hm with e | hm
        · rw [e] at hr; exact absurd hr h
        · exact hm
      obtain ⟨y, h1, h2, h3, h4⟩ := pick_spec l D r (List.pairwise_cons.1 hp).2 ⟨m, hm', hr⟩
      refine ⟨y, h1, List.mem_cons_of_mem _ h2, h3, fun z hz hzr => ?_⟩
      rcases List.mem_cons.1 hz with e | hz
      · rw [e] at hzr; exact absurd hzr h
      · exact h4 z hz hzr
/-- Where nothing lies on a circle, one of those that are left may come. -/
theorem ready_some (l : List Vo) (H all D : List ByteArray) (hcl : ∀ x ∈ all, ∀ y ∈ uses l x, y ∉ H → y ∈ all) (hnc : ∀ x ∈ all, ¬ Rch (uses l) H (fun y => y ∈ uses l x) x) (hHD : ∀ x ∈ H, x ∈ D) :
    ∀ (k : Nat) (n : ByteArray), n ∈ all → n ∉ D → cnt (Rch (uses l) H (fun y => y ∈ uses l n)) all ≤ k → ∃ m ∈ all, Rdy l D m
  | k, n, hn, hD, hk => by
    by_cases hr : Rdy l D n
    · exact ⟨n, hn, hr⟩
    · have : ∃ u ∈ uses l n, u ∉ D := by
        by_cases h : ∃ u ∈ uses l n, u ∉ D
        · exact h
        · exact absurd ⟨hD, fun u hu => by
            by_cases hu' : u ∈ D
            · exact hu'
            · exact absurd ⟨u, hu, hu'⟩ h⟩ hr
      obtain ⟨u, hu, huD⟩ := this
      have huH : u ∉ H := fun h => huD (hHD u h)
      have hua := hcl n hn u hu huH
      have hlt := cnt_lt (p := Rch (uses l) H (fun y => y ∈ uses l u)) (q := Rch (uses l) H (fun y => y ∈ uses l n)) (fun x hx => Rch.imp (fun _ h => h) (fun y hy hyn => .step u y (.base u hu huH) hy hyn) hx) u (.base u hu huH) (hnc u hua) all hua
      match k, hk with
      | 0, hk => omega
      | k + 1, hk => exact ready_some l H all D hcl hnc hHD k u hua huD (by omega)
/-- An order: each of all, behind what it uses, the least first. -/
structure OrdA (l : List Vo) (H all out : List ByteArray) : Prop where
  mem : ∀ x ∈ out, x ∈ all
  new : ∀ i (hi : i < out.length), out[i] ∉ out.take i ∧ out[i] ∉ H
  use : ∀ i (hi : i < out.length), ∀ u ∈ uses l out[i], u ∈ out.take i ∨ u ∈ H
  least : ∀ i (hi : i < out.length), ∀ m ∈ all, m ∉ out.take i → m ∉ H → (∀ u ∈ uses l m, u ∈ out.take i ∨ u ∈ H) → toL out[i] ≤ toL m
theorem OrdA.nil (l : List Vo) (H all : List ByteArray) : OrdA l H all [] :=
  ⟨fun x hx => absurd hx List.not_mem_nil, fun i hi => absurd hi (Nat.not_lt_zero _), fun i hi => absurd hi (Nat.not_lt_zero _), fun i hi => absurd hi (Nat.not_lt_zero _)⟩
theorem OrdA.snoc {l : List Vo} {H all out : List ByteArray} {x : ByteArray} (h : OrdA l H all out) (hx : x ∈ all) (hr : Rdy l (out.reverse ++ H) x) (hm : ∀ m ∈ all, Rdy l (out.reverse ++ H) m → toL x ≤ toL m) : OrdA l H all (out ++ [x]) := by
  have hmD : ∀ y, y ∈ out.reverse ++ H ↔ y ∈ out ∨ y ∈ H := fun y => by simp
  have key : ∀ i (hi : i < (out ++ [x]).length), (i < out.length ∧ ∃ h : i < out.length, (out ++ [x])[i] = out[i] ∧ (out ++ [x]).take i = out.take i) ∨ (i = out.length ∧ (out ++ [x])[i] = x ∧ (out ++ [x]).take i = out) := by
    intro i hi
    by_cases hl : i < out.length
    · exact .inl ⟨hl, hl, List.getElem_append_left hl, List.take_append_of_le_length (Nat.le_of_lt hl)⟩
    · have : i = out.length := by simp at hi; omega
      subst this
      exact .inr ⟨rfl, by simp, by simp⟩
  refine ⟨fun y hy => ?_, fun i hi => ?_, fun i hi => ?_, fun i hi => ?_⟩
  · rcases List.mem_append.1 hy with hy | hy
    · exact h.mem y hy
    · rw [List.mem_singleton.1 hy]; exact hx
  · rcases key i hi with ⟨_, hl, e1, e2⟩ | ⟨_, e1, e2⟩
    · rw [e1, e2]; exact h.new i hl
    · rw [e1, e2]; exact ⟨fun h' => hr.1 ((hmD x).2 (.inl h')), fun h' => hr.1 ((hmD x).2 (.inr h'))⟩
  · rcases key i hi with ⟨_, hl, e1, e2⟩ | ⟨_, e1, e2⟩
    · rw [e1, e2]; exact h.use i hl
    · rw [e1, e2]; exact fun u hu => (hmD u).1 (hr.2 u hu)
  · rcases key i hi with ⟨_, hl, e1, e2⟩ | ⟨_, e1, e2⟩
    · rw [e1, e2]; exact h.least i hl
    · rw [e1, e2]
      exact fun m hma h1 h2 h3 => hm m hma ⟨fun h' => ((hmD m).1 h').elim h1 h2, fun u hu => (hmD u).2 (h3 u hu)⟩
theorem OrdA.nodup {l : List Vo} {H all out : List ByteArray} (h : OrdA l H all out) : out.Nodup := by
  refine List.pairwise_iff_getElem.2 fun i j hi hj hij e => ?_
  exact (h.new j hj).1 (by rw [← e]; exact List.mem_take_iff_getElem.2 ⟨i, by omega, rfl⟩)
theorem nodup_sub_len : ∀ {a b : List ByteArray}, a.Nodup → (∀ x ∈ a, x ∈ b) → a.length ≤ b.length
  | [], b, _, _ => Nat.zero_le _
  | x :: r, b, h, hs => by
    obtain ⟨b1, b2, rfl⟩ := List.append_of_mem (hs x (by simp))
    have h1 := List.nodup_cons.1 h
    have h2 := nodup_sub_len (a := r) (b := b1 ++ b2) h1.2 (fun y hy => by
      have h3 := hs y (List.mem_cons_of_mem _ hy)
      rcases List.mem_append.1 h3 with h4 | h4
      · exact List.mem_append_left _ h4
      · rcases List.mem_cons.1 h4 with h5 | h5
        · rw [h5] at hy; exact absurd hy h1.1
        · exact List.mem_append_right _ h5)
    simp at h2 ⊢
    omega
theorem nodup_sub_all {a b : List ByteArray} (h : a.Nodup) (hs : ∀ x ∈ a, x ∈ b) (hl : b.length ≤ a.length) : ∀ x ∈ b, x ∈ a := by
  intro x hx
  by_cases hxa : x ∈ a
  · exact hxa
  · have := nodup_sub_len (a := x :: a) (b := b) (List.nodup_cons.2 ⟨hxa, h⟩) (fun y hy => by rcases List.mem_cons.1 hy with e | hy; rw [e]; exact hx; exact hs y hy)
    simp at this
    omega
theorem topo_spec (l : List Vo) (H all : List ByteArray) (hso : all.Pairwise (fun x y => toL x ≤ toL y)) (hnd : all.Nodup) (haH : ∀ x ∈ all, x ∉ H) (hcl : ∀ x ∈ all, ∀ y ∈ uses l x, y ∉ H → y ∈ all) (hnc : ∀ x ∈ all, ¬ Rch (uses l) H (fun y => y ∈ uses l x) x) :
    ∀ (n : Nat) (out : List ByteArray), OrdA l H all out → all.length + 1 = out.length + n → 1 ≤ n → ∃ res, topo l H all n out = some res ∧ OrdA l H all res ∧ res.length = all.length
  | 0, out, _, _, h => absurd h (by omega)
  | n + 1, out, ho, hn, _ => by
    have hle : out.length ≤ all.length := nodup_sub_len ho.nodup ho.mem
    rw [topo]
    by_cases h0 : all.length ≤ out.length
    · rw [if_pos h0]
      exact ⟨out, rfl, ho, by omega⟩
    · rw [if_neg h0]
      have : ∃ m ∈ all, m ∉ out.reverse ++ H := by
        by_cases h : ∃ m ∈ all, m ∉ out.reverse ++ H
        · exact h
        · exfalso
          have : all.length ≤ out.length := nodup_sub_len hnd (fun x hx => by
            by_cases hxo : x ∈ out.reverse ++ H
            · have h1 : x ∈ out ∨ x ∈ H := by simpa using hxo
              exact h1.resolve_right (haH x hx)
            · exact absurd ⟨x, hx, hxo⟩ h)
          omega
      obtain ⟨m, hm, hmD⟩ := this
      obtain ⟨x, h1, h2, h3, h4⟩ := pick_spec l (out.reverse ++ H) all hso (ready_some l H all (out.reverse ++ H) hcl hnc (fun x hx => by simp [hx]) _ m hm hmD (Nat.le_refl _))
      rw [h1]
      exact topo_spec l H all hso hnd haH hcl hnc n (out ++ [x]) (ho.snoc h2 h3 h4) (by simp; omega) (by omega)
theorem firstC_none {l : List Vo} {H : List ByteArray} : ∀ {all : List ByteArray}, firstC l H all = none → ∀ x ∈ all, circ l H x 16777216 (uses l x) [] ≠ some true
  | [], _, x, hx => by cases hx
  | y :: r, h, x, hx => by
    unfold firstC at h
    by_cases hc : circ l H y 16777216 (uses l y) [] = some true
    · rw [if_pos hc] at h; cases h
    · rw [if_neg hc] at h
      rcases List.mem_cons.1 hx with e | hx
      · rw [e]; exact hc
      · exact firstC_none h x hx
theorem circ_iff {l : List Vo} (hF : Fine l) (H : List ByteArray) (x : ByteArray) : circ l H x 16777216 (uses l x) [] = some true ↔ Rch (uses l) H (fun y => y ∈ uses l x) x := by
  obtain ⟨r, hr⟩ := circ_total l H x 16777216 (uses l x) [] (by have := uses_len l x; have := ub_tot l; have := hF.2.1; omega)
  have h := circ_spec l H x (fun y => y ∈ uses l x) _ _ _ r hr (Clo.start _ _ _) (by simp)
  rw [hr, ← h]
  cases r <;> simp
/-- What Sort answers. -/
structure Out (l : List Vo) (wl hv : List ByteArray) (o : List ByteArray) : Prop where
  dist : bads l = []
  all : ∀ x, x ∈ o ↔ Rch (uses l) hv.reverse (fun y => y ∈ wl) x
  known : ∀ x ∈ o, usesOf l x ≠ none
  ord : OrdA l hv.reverse o o
theorem firstC_some {l : List Vo} {H : List ByteArray} {x : ByteArray} : ∀ {all : List ByteArray}, firstC l H all = some x → all.Pairwise (fun x y => toL x ≤ toL y) → x ∈ all ∧ circ l H x 16777216 (uses l x) [] = some true ∧ ∀ y ∈ all, circ l H y 16777216 (uses l y) [] = some true → toL x ≤ toL y
  | [], h, _ => by cases h
  | z :: r, h, hp => by
    unfold firstC at h
    by_cases hc : circ l H z 16777216 (uses l z) [] = some true
    · rw [if_pos hc] at h
      injection h with h
      subst h
      refine ⟨by simp, hc, fun y hy _ => ?_⟩
      rcases List.mem_cons.1 hy with e | hy
      · rw [e]; exact List.le_refl _
      · exact (List.pairwise_cons.1 hp).1 y hy
    · rw [if_neg hc] at h
      obtain ⟨h1, h2, h3⟩ := firstC_some h (List.pairwise_cons.1 hp).2
      refine ⟨List.mem_cons_of_mem _ h1, h2, fun y hy hyc => ?_⟩
      rcases List.mem_cons.1 hy with e | hy
      · rw [e] at hyc; exact absurd hyc hc
      · exact h3 y hy hyc
abbrev RW (l : List Vo) (wl hv : List ByteArray) : ByteArray → Prop := Rch (uses l) hv.reverse (fun y => y ∈ wl)
abbrev OnC (l : List Vo) (hv : List ByteArray) (x : ByteArray) : Prop := Rch (uses l) hv.reverse (fun y => y ∈ uses l x) x
/-- What Sort answers, at any input. -/
inductive Res (l : List Vo) (wl hv : List ByteArray) : List ByteArray × ByteArray × Int → Prop where
  | twice : bads l ≠ [] → Res l wl hv ([], mnL (bads l), 14)
  | none (miss : List ByteArray) : bads l = [] → miss ≠ [] → (∀ x, x ∈ miss ↔ RW l wl hv x ∧ usesOf l x = none) → Res l wl hv ([], mnL miss, 6)
  | cycle (x : ByteArray) : bads l = [] → (∀ x, RW l wl hv x → usesOf l x ≠ none) → RW l wl hv x → OnC l hv x → (∀ y, RW l wl hv y → OnC l hv y → toL x ≤ toL y) → Res l wl hv ([], x, 15)
  | ok (o : List ByteArray) : Out l wl hv o → (∀ x, RW l wl hv x → ¬ OnC l hv x) → Res l wl hv (o, ByteArray.empty, 0)
theorem sortV_res {l : List Vo} (hF : Fine l) (wl hv : List ByteArray) (hw : wl.length ≤ 4194304) : ∃ r, sortV l wl hv = some r ∧ Res l wl hv r := by
  unfold sortV
  by_cases hb : bads l = []
  · rw [if_pos hb]
    obtain ⟨⟨seen, miss⟩, hwt⟩ := want_total l hv.reverse 16777216 wl [] [] (by have := ub_tot l; have := hF.2.1; omega)
    rw [hwt]
    obtain ⟨h1, h2⟩ := want_spec l hv.reverse (fun y => y ∈ wl) _ _ _ _ _ _ hwt (Clo.start _ _ _) (by simp)
    dsimp only
    by_cases hm : miss = []
    · rw [if_pos hm]
      have hkn : ∀ x, RW l wl hv x → usesOf l x ≠ none := fun x hx hn => by
        have : x ∈ miss := (h2 x).2 ⟨(h1 x).2 hx, hn⟩
        rw [hm] at this
        cases this
      cases hfc : firstC l hv.reverse (srt seen) with
      | some x =>
        obtain ⟨q1, q2, q3⟩ := firstC_some hfc (srt_sorted seen)
        exact ⟨_, rfl, .cycle x hb hkn ((h1 x).1 (mem_srt.1 q1)) ((circ_iff hF _ x).1 q2) (fun y hy hyc => q3 y (mem_srt.2 ((h1 y).2 hy)) ((circ_iff hF _ y).2 hyc))⟩
      | none =>
        have hcl : ∀ x ∈ srt seen, ∀ y ∈ uses l x, y ∉ hv.reverse → y ∈ srt seen := fun x hx y hy hn => mem_srt.2 ((h1 y).2 (.step x y ((h1 x).1 (mem_srt.1 hx)) hy hn))
        have hnc : ∀ x ∈ srt seen, ¬ Rch (uses l) hv.reverse (fun y => y ∈ uses l x) x := fun x hx h => firstC_none hfc x hx ((circ_iff hF hv.reverse x).2 h)
        obtain ⟨res, hr, ho, hlen⟩ := topo_spec l hv.reverse (srt seen) (srt_sorted seen) (srt_nodup seen) (fun x hx => ((h1 x).1 (mem_srt.1 hx)).notH) hcl hnc ((srt seen).length + 1) [] (OrdA.nil _ _ _) (by simp) (by omega)
        rw [hr]
        have hsub : ∀ x ∈ srt seen, x ∈ res := nodup_sub_all ho.nodup ho.mem (by omega)
        refine ⟨_, rfl, .ok res ⟨hb, fun x => ?_, fun x hx => ?_, ?_⟩ (fun x hx => hnc x (mem_srt.2 ((h1 x).2 hx)))⟩
        · exact ⟨fun hx => (h1 x).1 (mem_srt.1 (ho.mem x hx)), fun hx => hsub x (mem_srt.2 ((h1 x).2 hx))⟩
        · exact hkn x ((h1 x).1 (mem_srt.1 (ho.mem x hx)))
        · exact ⟨fun x hx => hx, ho.new, ho.use, fun i hi m hm => ho.least i hi m (ho.mem m hm)⟩
    · rw [if_neg hm]
      exact ⟨_, rfl, .none miss hb hm (fun x => by rw [h2 x, h1 x])⟩
  · rw [if_neg hb]
    exact ⟨_, rfl, .twice hb⟩
theorem Out.size {l : List Vo} {wl hv o : List ByteArray} (h : Out l wl hv o) (hF : Fine l) (hw : ∀ u ∈ wl, u.size ≤ maxLen) : ∀ u ∈ o, u.size ≤ maxLen := by
  intro u hu
  have := (h.all u).1 hu
  cases this with
  | base _ h1 h2 => exact hw u h1
  | step x _ h1 h2 h3 => exact uses_size hF x u h2
theorem usesOf_name {x : ByteArray} {us : List ByteArray} {l : List Vo} (h : usesOf l x = some us) : (x, us) ∈ l := by
  have key : ∀ (l : List Vo) (a : Option (List ByteArray)), l.foldl (fun a v => if x = v.1 then some v.2 else a) a = some us → a = some us ∨ (x, us) ∈ l := by
    intro l
    induction l with
    | nil => intro a h; exact .inl h
    | cons v r ih =>
      intro a h
      rcases ih _ h with h1 | h1
      · have h1 : (if x = v.1 then some v.2 else a) = some us := h1
        by_cases hx : x = v.1
        · rw [if_pos hx] at h1
          injection h1 with h1
          refine .inr ?_
          rw [hx, ← h1]
          exact List.mem_cons_self ..
        · rw [if_neg hx] at h1
          exact .inl h1
      · exact .inr (List.mem_cons_of_mem _ h1)
  rcases key l none h with h1 | h1
  · cases h1
  · exact h1
theorem Out.len {l : List Vo} {wl hv o : List ByteArray} (h : Out l wl hv o) : o.length ≤ l.length := by
  have h1 := nodup_sub_len (a := o) (b := l.map (·.1)) h.ord.nodup (fun x hx => by
    cases hu : usesOf l x with
    | none => exact absurd hu (h.known x hx)
    | some us => exact List.mem_map.2 ⟨(x, us), usesOf_name hu, rfl⟩)
  simpa using h1
/-- Two that stand for the same are the same. -/
theorem OrdA.unique {l l' : List Vo} {H H' a b : List ByteArray} (hu : ∀ x, uses l' x = uses l x) (hH : ∀ x, x ∈ H' ↔ x ∈ H) (ha : OrdA l H a a) (hb : OrdA l' H' b b) (hm : ∀ x, x ∈ a ↔ x ∈ b) : a = b := by
  have hlen : a.length = b.length := Nat.le_antisymm (nodup_sub_len ha.nodup (fun x hx => (hm x).1 hx)) (nodup_sub_len hb.nodup (fun x hx => (hm x).2 hx))
  have key : ∀ i, i ≤ a.length → a.take i = b.take i := by
    intro i
    induction i with
    | zero => intro _; rfl
    | succ i ih =>
      intro hi
      have e := ih (by omega)
      have hia : i < a.length := by omega
      have hib : i < b.length := by omega
      rw [List.take_succ_eq_append_getElem hia, List.take_succ_eq_append_getElem hib, e]
      have h1 : toL a[i] ≤ toL b[i] := ha.least i hia b[i] ((hm _).2 (List.getElem_mem hib)) (by rw [e]; exact (hb.new i hib).1) (fun h => (hb.new i hib).2 ((hH _).2 h)) (fun u hu' => by
        rw [e]
        rcases hb.use i hib u (by rw [hu]; exact hu') with h | h
        · exact .inl h
        · exact .inr ((hH u).1 h))
      have h2 : toL b[i] ≤ toL a[i] := hb.least i hib a[i] ((hm _).1 (List.getElem_mem hia)) (by rw [← e]; exact (ha.new i hia).1) (fun h => (ha.new i hia).2 ((hH _).1 h)) (fun u hu' => by
        rw [← e]
        rcases ha.use i hia u (by rw [← hu]; exact hu') with h | h
        · exact .inl h
        · exact .inr ((hH u).2 h))
      rw [toL_inj (List.le_antisymm h1 h2)]
  have := key a.length (Nat.le_refl _)
  rwa [List.take_length, hlen, List.take_length] at this
end Go.Proofs.Ytlphpmdmlcphbaa.Or
