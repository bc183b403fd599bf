/- Seat E: plain: Sort's answer is one; the levels of an order; insertion. The reference's insert, walked. -/
import Derived.Test.YtlphpmdmlcphbaaOr53
import Derived.Test.YtlphpmdmlcphbaaOr41
namespace Go.Proofs.Ytlphpmdmlcphbaa.Or
open Go Go.RowKit Go.Proofs.Ytlphpmdmlcphbaa.Mem Go.Proofs.YtlphpmdmlcphbaaW.PrintWords Go.Maps Go.Proofs.Ytlphpmdmlcphbaa.Om
set_option linter.unusedVariables false
set_option linter.unusedSimpArgs false
set_option maxRecDepth 100000
set_option maxHeartbeats 2000000
theorem Res.unique {l : List Vo} {wl hv : List ByteArray} {r r' : List ByteArray × ByteArray × Int} (h : Res l wl hv r) (h' : Res l wl hv r') : r = r' := by
  cases h with
  | twice h =>
    cases h' with
    | twice _ => rfl
    | none _ h2 _ _ => exact absurd h2 h
    | cycle _ h2 _ _ _ _ => exact absurd h2 h
    | ok o ho _ => exact absurd ho.dist h
  | none miss hb hm hx =>
    obtain ⟨z, hz⟩ := List.exists_mem_of_ne_nil miss hm
    obtain ⟨hz1, hz2⟩ := (hx z).1 hz
    cases h' with
    | twice h => exact absurd hb h
    | none miss' _ hm' hx' => rw [mnL_congr (b := miss) (c := miss') (fun x => by rw [hx x, hx' x]) hm]
    | cycle x _ hk _ _ _ => exact absurd hz2 (hk z hz1)
    | ok o ho _ => exact absurd hz2 (ho.known z ((ho.all z).2 hz1))
  | cycle x hb hk h1 h2 h3 =>
    cases h' with
    | twice h => exact absurd hb h
    | none miss' _ hm' hx' =>
      obtain ⟨z, hz⟩ := List.exists_mem_of_ne_nil miss' hm'
      obtain ⟨hz1, hz2⟩ := (hx' z).1 hz
      exact absurd hz2 (hk z hz1)
    | cycle x' _ hk' h1' h2' h3' =>
      have : x = x' := toL_inj (List.le_antisymm (h3 x' h1' h2') (h3' x h1 h2))
      rw [this]
    | ok o ho hn => exact absurd h2 (hn x h1)
  | ok o ho hn =>
    cases h' with
    | twice h => exact absurd ho.dist h
    | none miss' _ hm' hx' =>
      obtain ⟨z, hz⟩ := List.exists_mem_of_ne_nil miss' hm'
      obtain ⟨hz1, hz2⟩ := (hx' z).1 hz
      exact absurd hz2 (ho.known z ((ho.all z).2 hz1))
    | cycle x' _ hk' h1' h2' h3' => exact absurd h2' (hn x' h1')
    | ok o' ho' hn' =>
      have : o = o' := OrdA.unique (fun _ => rfl) (fun x => Iff.rfl) ho.ord ho'.ord (fun x => by rw [ho.all x, ho'.all x])
      rw [this]
/-- A name's level, at last. -/
def lvN (l : List Vo) (o : List ByteArray) (x : ByteArray) : Nat := ((levs l o).1 x).getD 0
theorem kOf_congr {l : List Vo} {f g : ByteArray → Option Nat} {x : ByteArray} (h : ∀ u ∈ uses l x, f u = g u) : kOf l f x = kOf l g x := by
  unfold kOf
  have key : ∀ (us : List ByteArray) (k : Nat), (∀ u ∈ us, f u = g u) → us.foldl (fun k u => max k ((f u).getD 0 + 1)) k = us.foldl (fun k u => max k ((g u).getD 0 + 1)) k := by
    intro us
    induction us with
    | nil => intro k _; rfl
    | cons u r ih =>
      intro k h
      rw [List.foldl_cons, List.foldl_cons, h u (by simp)]
      exact ih _ (fun z hz => h z (List.mem_cons_of_mem _ hz))
  exact key _ 0 h
theorem kOf_iff {l : List Vo} {f : ByteArray → Option Nat} {x : ByteArray} {n : Nat} : kOf l f x ≤ n ↔ ∀ u ∈ uses l x, (f u).getD 0 < n := by
  unfold kOf
  have key : ∀ (us : List ByteArray) (k : Nat), us.foldl (fun k u => max k ((f u).getD 0 + 1)) k ≤ n ↔ k ≤ n ∧ ∀ u ∈ us, (f u).getD 0 < n := by
    intro us
    induction us with
    | nil => intro k; simp
    | cons u r ih =>
      intro k
      rw [List.foldl_cons, ih]
      simp only [List.mem_cons, forall_eq_or_imp]
      constructor
      · rintro ⟨h1, h2⟩; exact ⟨by omega, by omega, h2⟩
      · rintro ⟨h1, h2, h3⟩; exact ⟨by omega, h3⟩
  rw [key]
  exact ⟨fun h => h.2, fun h => ⟨Nat.zero_le _, h⟩⟩
/-- What the levels of an order are. -/
structure LS (l : List Vo) (o : List ByteArray) : Prop where
  nd : o.Nodup
  us : ∀ x ∈ o, ∀ u ∈ uses l x, u ∈ o
  lv : ∀ x ∈ o, lvN l o x = kOf l (levs l o).1 x
  lt : ∀ x ∈ o, ∃ k, (levs l o).1 x = some k ∧ k < (levs l o).2.length
  ex : ∀ k, k < (levs l o).2.length → ∃ x ∈ o, lvN l o x = k
  at_ : ∀ k (hk : k < (levs l o).2.length), (levs l o).2[k] = o.filter (fun x => decide (lvN l o x = k))
theorem LS.nil (l : List Vo) : LS l [] :=
  ⟨List.nodup_nil, fun x hx => absurd hx List.not_mem_nil, fun x hx => absurd hx List.not_mem_nil, fun x hx => absurd hx List.not_mem_nil, fun k hk => absurd hk (Nat.not_lt_zero _), fun k hk => absurd hk (Nat.not_lt_zero _)⟩
theorem LS.snoc {l : List Vo} {o : List ByteArray} {x : ByteArray} (h : LS l o) (hx : x ∉ o) (hu : ∀ u ∈ uses l x, u ∈ o) : LS l (o ++ [x]) := by
  have hK : kOf l (levs l o).1 x ≤ (levs l o).2.length := kOf_le (fun v hv => h.lt v (hu v hv))
  have e1 : (levs l (o ++ [x])).1 = fun y => if y = x then some (kOf l (levs l o).1 x) else (levs l o).1 y := by rw [levs_snoc]; rfl
  have e2 : (levs l (o ++ [x])).2 = (if kOf l (levs l o).1 x = (levs l o).2.length then (levs l o).2 ++ [[]] else (levs l o).2).set (kOf l (levs l o).1 x) ((if kOf l (levs l o).1 x = (levs l o).2.length then (levs l o).2 ++ [[]] else (levs l o).2).getD (kOf l (levs l o).1 x) [] ++ [x]) := by rw [levs_snoc]; rfl
  obtain ⟨K, hKe⟩ : ∃ K, K = kOf l (levs l o).1 x := ⟨_, rfl⟩
  obtain ⟨s2, hs2⟩ : ∃ s2, s2 = (levs l o).2 := ⟨_, rfl⟩
  obtain ⟨Bq, hB⟩ : ∃ Bq, Bq = if K = s2.length then s2 ++ [[]] else s2 := ⟨_, rfl⟩
  rw [← hKe] at hK e1 e2
  rw [← hs2] at e2 hK
  rw [← hB] at e2
  have hne : ∀ y ∈ o, y ≠ x := fun y hy e => hx (e ▸ hy)
  have hold : ∀ y ∈ o, lvN l (o ++ [x]) y = lvN l o y := fun y hy => by unfold lvN; rw [e1]; dsimp only; rw [if_neg (hne y hy)]
  have hnew : lvN l (o ++ [x]) x = K := by unfold lvN; rw [e1]; simp
  have hkc : ∀ y, (∀ u ∈ uses l y, u ∈ o) → kOf l (levs l (o ++ [x])).1 y = kOf l (levs l o).1 y := fun y hy => kOf_congr (fun u hu' => by rw [e1]; dsimp only; rw [if_neg (hne u (hy u hu'))])
  have hBl : Bq.length = if K = s2.length then s2.length + 1 else s2.length := by rw [hB]; split <;> simp
  have hKB : K < Bq.length := by rw [hBl]; split <;> omega
  have hlen : (levs l (o ++ [x])).2.length = Bq.length := by rw [e2, List.length_set]
  have hltN : ∀ y ∈ o, lvN l o y < s2.length := fun y hy => by
    obtain ⟨k, h1, h2⟩ := h.lt y hy
    unfold lvN
    rw [h1, hs2]
    simpa using h2
  have hfil : ∀ k, (o ++ [x]).filter (fun y => decide (lvN l (o ++ [x]) y = k)) = o.filter (fun y => decide (lvN l o y = k)) ++ if K = k then [x] else [] := fun k => by
    rw [List.filter_append, List.filter_cons, List.filter_nil, hnew]
    congr 1
    · exact List.filter_congr (fun y hy => by rw [hold y hy])
    · by_cases hk : K = k <;> simp [hk]
  refine ⟨?_, fun y hy u hu' => ?_, fun y hy => ?_, fun y hy => ?_, fun k hk => ?_, fun k hk => ?_⟩
  · rw [List.nodup_append]
    exact ⟨h.nd, by simp, fun a ha b hb => by rw [List.mem_singleton.1 hb]; exact hne a ha⟩
  · rcases List.mem_append.1 hy with hy | hy
    · exact List.mem_append_left _ (h.us y hy u hu')
    · rw [List.mem_singleton.1 hy] at hu'
      exact List.mem_append_left _ (hu u hu')
  · rcases List.mem_append.1 hy with hy | hy
    · rw [hold y hy, hkc y (h.us y hy)]
      exact h.lv y hy
    · rw [List.mem_singleton.1 hy, hnew, hkc x hu, hKe]
  · rw [hlen]
    rcases List.mem_append.1 hy with hy | hy
    · obtain ⟨k, h1, h2⟩ := h.lt y hy
      refine ⟨k, by rw [e1]; dsimp only; rw [if_neg (hne y hy)]; exact h1, ?_⟩
      rw [← hs2] at h2
      rw [hBl]; split <;> omega
    · refine ⟨K, by rw [e1, List.mem_singleton.1 hy]; simp, hKB⟩
  · rw [hlen, hBl] at hk
    by_cases hkK : k = K
    · exact ⟨x, by simp, by rw [hnew, hkK]⟩
    · obtain ⟨y, hy, e⟩ := h.ex k (by rw [← hs2]; split at hk <;> omega)
      exact ⟨y, List.mem_append_left _ hy, by rw [hold y hy, e]⟩
  · rw [hfil k]
    have hk2 : k < Bq.length := by rw [← hlen]; exact hk
    have e3 : (levs l (o ++ [x])).2[k] = if K = k then Bq.getD K [] ++ [x] else Bq[k] := by
      simp only [e2]
      rw [List.getElem_set]
    rw [e3]
    have hat : ∀ j (hj : j < s2.length), s2[j] = o.filter (fun y => decide (lvN l o y = j)) := fun j hj => by
      have := h.at_ j (by rw [← hs2]; exact hj)
      simp only [hs2]
      exact this
    by_cases hkK : K = k
    · subst hkK
      rw [if_pos rfl, if_pos rfl]
      congr 1
      by_cases hKl : K = s2.length
      · rw [hB, if_pos hKl, hKl]
        simp only [List.getD_eq_getElem?_getD]
        rw [List.getElem?_append_right (Nat.le_refl _)]
        simp only [Nat.sub_self, List.getElem?_cons_zero, Option.getD_some]
        refine (List.filter_eq_nil_iff.2 (fun y hy hd => ?_)).symm
        have := hltN y hy
        have := of_decide_eq_true hd
        omega
      · rw [hB, if_neg hKl]
        have hKs : K < s2.length := by omega
        rw [List.getD_eq_getElem?_getD, List.getElem?_eq_getElem hKs]
        simp only [Option.getD_some]
        exact hat K hKs
    · rw [if_neg hkK, if_neg hkK, List.append_nil]
      have hks : k < s2.length := by rw [hBl] at hk2; split at hk2 <;> omega
      have : Bq[k] = s2[k] := by
        simp only [hB]
        split
        · rw [List.getElem_append_left hks]
        · rfl
      rw [this]
      exact hat k hks
theorem LS.of {l : List Vo} {o : List ByteArray} (hn : ∀ i (hi : i < o.length), o[i] ∉ o.take i) (hu : ∀ i (hi : i < o.length), ∀ u ∈ uses l o[i], u ∈ o.take i) : LS l o := by
  have key : ∀ i, i ≤ o.length → LS l (o.take i) := by
    intro i
    induction i with
    | zero => intro _; exact LS.nil l
    | succ i ih =>
      intro hi
      have hi' : i < o.length := by omega
      rw [List.take_succ_eq_append_getElem hi']
      exact (ih (by omega)).snoc (hn i hi') (hu i hi')
  have := key o.length (Nat.le_refl _)
  rwa [List.take_length] at this
theorem LS.next {l : List Vo} {o : List ByteArray} (h : LS l o) (k : Nat) (done : List ByteArray) (hd : ∀ x, x ∈ done ↔ x ∈ o ∧ lvN l o x < k) : o.filter (mayB l [] done) = o.filter (fun x => decide (lvN l o x = k)) := by
  refine List.filter_congr (fun x hx => ?_)
  rw [Bool.eq_iff_iff, mayB_true, decide_eq_true_iff, hd x]
  have h1 := h.lv x hx
  have h2 : lvN l o x ≤ k ↔ ∀ u ∈ uses l x, lvN l o u < k := by rw [h1]; exact kOf_iff
  constructor
  · rintro ⟨h3, h4⟩
    have h5 := h2.2 (fun u hu => by
      rcases h4 u hu with h6 | h6
      · exact ((hd u).1 h6).2
      · cases h6)
    have h6 : ¬ lvN l o x < k := fun h7 => h3 ⟨hx, h7⟩
    omega
  · intro h3
    refine ⟨fun h4 => by omega, fun u hu => .inl ((hd u).2 ⟨h.us x hx u hu, h2.1 (by omega) u hu⟩)⟩
/-- Where a name is put. -/
def insK (l : List ByteArray) (s : ByteArray) : Nat := l.findIdx (fun y => !decide (toL y < toL s))
def insS (l : List ByteArray) (s : ByteArray) : List ByteArray := l.take (insK l s) ++ s :: l.drop (insK l s)
theorem insS_perm (l : List ByteArray) (s : ByteArray) : (insS l s).Perm (l ++ [s]) := by
  unfold insS
  have h1 := List.perm_middle (a := s) (l₁ := l.take (insK l s)) (l₂ := l.drop (insK l s))
  rw [List.take_append_drop] at h1
  exact h1.trans (List.perm_append_singleton s l).symm
theorem insS_sorted {l : List ByteArray} (s : ByteArray) (h : l.Pairwise (fun x y => toL x ≤ toL y)) : (insS l s).Pairwise (fun x y => toL x ≤ toL y) := by
  unfold insS
  have hlt : ∀ y ∈ l.take (insK l s), toL y < toL s := fun y hy => by
    obtain ⟨i, hi, rfl⟩ := List.mem_take_iff_getElem.1 hy
    have := List.not_of_lt_findIdx (p := fun y => !decide (toL y < toL s)) (xs := l) (i := i) (by unfold insK at hi; omega)
    simpa using this
  have hge : ∀ y ∈ l.drop (insK l s), toL s ≤ toL y := fun y hy => by
    have hlen : insK l s < l.length := by
      by_cases hl : insK l s < l.length
      · exact hl
      · rw [List.drop_of_length_le (by omega)] at hy; cases hy
    have h0 : toL s ≤ toL l[insK l s] := by
      have := List.findIdx_getElem (p := fun y => !decide (toL y < toL s)) (xs := l) (w := hlen)
      have h1 : ¬ toL (l[insK l s]) < toL s := by
        intro h2
        have h3 : (!decide (toL (l[insK l s]) < toL s)) = true := this
        simp [h2] at h3
      exact List.not_lt.1 h1
    rw [List.drop_eq_getElem_cons hlen] at hy
    rcases List.mem_cons.1 hy with e | hy
    · rw [e]; exact h0
    · have h2 := List.Pairwise.sublist (List.drop_sublist (insK l s) l) h
      rw [List.drop_eq_getElem_cons hlen] at h2
      exact List.le_trans h0 ((List.pairwise_cons.1 h2).1 y hy)
  rw [List.pairwise_append]
  refine ⟨List.Pairwise.sublist (List.take_sublist _ _) h, List.pairwise_cons.2 ⟨hge, List.Pairwise.sublist (List.drop_sublist _ _) h⟩, fun a ha b hb => ?_⟩
  have h1 := List.le_of_lt (hlt a ha)
  rcases List.mem_cons.1 hb with e | hb
  · rw [e]; exact h1
  · exact List.le_trans h1 (hge b hb)
theorem ins_fold (xs : List ByteArray) : ∀ (acc : List ByteArray), acc.Pairwise (fun x y => toL x ≤ toL y) → (xs.foldl insS acc).Pairwise (fun x y => toL x ≤ toL y) ∧ (xs.foldl insS acc).Perm (acc ++ xs) := by
  induction xs with
  | nil => intro acc h; exact ⟨h, by simp⟩
  | cons x r ih =>
    intro acc h
    obtain ⟨h1, h2⟩ := ih (insS acc x) (insS_sorted x h)
    refine ⟨h1, h2.trans ?_⟩
    have := (insS_perm acc x).append_right r
    rw [List.append_assoc] at this
    exact this
theorem leB_trans : ∀ a b c : List UInt8, leB a b = true → leB b c = true → leB a c = true := fun a b c h1 h2 => by simp only [leB, decide_eq_true_eq] at *; exact List.le_trans h1 h2
theorem leB_total : ∀ a b : List UInt8, (leB a b || leB b a) = true := fun a b => by simp only [leB, Bool.or_eq_true, decide_eq_true_eq]; exact List.le_total a b
theorem msort_ins (xs : List ByteArray) : xs.foldl insS [] = msort xs := by
  obtain ⟨h1, h2⟩ := ins_fold xs [] List.Pairwise.nil
  rw [List.nil_append] at h2
  unfold msort
  rw [← mergeSort_of_perm (h2.map toL), List.mergeSort_of_pairwise (List.pairwise_map.2 (h1.imp fun {a b} h => by simpa [leB] using h)), List.map_map]
  conv => lhs; rw [← List.map_id (xs.foldl insS [])]
  exact List.map_congr_left fun x _ => (ofL_toL x).symm
theorem msort_perm (xs : List ByteArray) : (msort xs).Perm xs := by
  rw [← msort_ins]
  have := (ins_fold xs [] List.Pairwise.nil).2
  rwa [List.nil_append] at this
/-- What is done behind k levels. -/
structure DN (l : List Vo) (o : List ByteArray) (k : Nat) (done : List ByteArray) : Prop where
  nd : done.Nodup
  mem : ∀ x, x ∈ done ↔ x ∈ o ∧ lvN l o x < k
theorem DN.nil (l : List Vo) (o : List ByteArray) : DN l o 0 [] := ⟨List.nodup_nil, fun x => by simp⟩
theorem DN.more {l : List Vo} {o done : List ByteArray} {k : Nat} (h : LS l o) (hd : DN l o k done) (hk : k < (levs l o).2.length) : done.length < o.length := by
  obtain ⟨x, hx, e⟩ := h.ex k hk
  have := nodup_sub_len (a := x :: done) (b := o) (List.nodup_cons.2 ⟨fun h => by have := ((hd.mem x).1 h).2; omega, hd.nd⟩) (fun y hy => by
    rcases List.mem_cons.1 hy with h | h
    · rw [h]; exact hx
    · exact ((hd.mem y).1 h).1)
  have h2 : (x :: done).length = done.length + 1 := rfl
  omega
theorem DN.stop {l : List Vo} {o done : List ByteArray} {k : Nat} (h : LS l o) (hd : DN l o k done) (hk : (levs l o).2.length ≤ k) : ¬ done.length < o.length := by
  have := nodup_sub_len (a := o) (b := done) h.nd (fun y hy => (hd.mem y).2 ⟨hy, by
    obtain ⟨q, h1, h2⟩ := h.lt y hy
    unfold lvN
    rw [h1]
    simp only [Option.getD_some]
    omega⟩)
  omega
theorem DN.snoc {l : List Vo} {o done : List ByteArray} {k : Nat} (h : LS l o) (hd : DN l o k done) : DN l o (k + 1) (done ++ msort (o.filter (fun x => decide (lvN l o x = k)))) := by
  have hm : ∀ x, x ∈ msort (o.filter (fun x => decide (lvN l o x = k))) ↔ x ∈ o ∧ lvN l o x = k := fun x => by rw [(msort_perm _).mem_iff]; simp
  refine ⟨?_, fun x => ?_⟩
  · rw [List.nodup_append]
    exact ⟨hd.nd, (msort_perm _).nodup_iff.2 (h.nd.filter _), fun a ha b hb e => by
      have h1 := ((hd.mem a).1 ha).2
      have h2 := ((hm b).1 hb).2
      rw [← e] at h2
      omega⟩
  · rw [List.mem_append, hd.mem x, hm x]
    constructor
    · rintro (⟨h1, h2⟩ | ⟨h1, h2⟩)
      · exact ⟨h1, by omega⟩
      · exact ⟨h1, by omega⟩
    · rintro ⟨h1, h2⟩
      by_cases h3 : lvN l o x = k
      · exact .inr ⟨h1, h3⟩
      · exact .inl ⟨h1, by omega⟩
theorem lev_take {l : List Vo} {o : List ByteArray} {k : Nat} (h : LS l o) (hk : k < (levs l o).2.length) : ((levs l o).2.map msort).take (k + 1) = ((levs l o).2.map msort).take k ++ [msort (o.filter (fun x => decide (lvN l o x = k)))] := by
  rw [List.take_succ_eq_append_getElem (by simpa using hk), List.getElem_map, h.at_ k hk]
theorem C_drop {w : World} {ad : Addr} {n : Nat} {xs : List ByteArray} (h : Kd.string.C w (some ad) n xs) (k m : Nat) (hm : m + k = n) : Kd.string.C w (some (ad.add k)) m (xs.drop k) := by
  have hn : xs.length = n := h.1
  have hb : n ≤ maxLen := h.2.1
  refine ⟨by rw [List.length_drop]; omega, Nat.le_trans (show m ≤ n by omega) hb, fun hp => ?_⟩
  obtain ⟨ad', hA, hc⟩ := h.2.2 (by omega)
  injection hA with hA
  subst hA
  refine ⟨_, rfl, fun j p hj => ?_⟩
  rw [List.getElem?_drop] at hj
  obtain ⟨cs, h1, h2, h3⟩ := hc (k + j) p hj
  refine ⟨cs, h1, h2, fun q u hq => ?_⟩
  rw [add_of_add]
  have e : k + (j * Kd.string.sz + q) = (k + j) * Kd.string.sz + q := by
    have : Kd.string.sz = 1 := rfl
    rw [this]; omega
  rw [e]
  exact h3 q u hq
theorem C_pre {w : World} {ad : Addr} {xs : List ByteArray} (h : Kd.string.C w (some ad) xs.length xs) (k : Nat) (hk : k ≤ xs.length) : Kd.string.C w (some ad) k (xs.take k) := by
  have := C_take h k hk
  rwa [List.length_take, Nat.min_eq_left hk] at this
theorem insK_le (l : List ByteArray) (s : ByteArray) : insK l s ≤ l.length := List.findIdx_le_length
theorem insK_step {l : List ByteArray} {s : ByteArray} {k : Nat} (hk : k ≤ insK l s) (hl : k < l.length) (h : toL l[k] < toL s) : k + 1 ≤ insK l s := by
  by_cases e : k = insK l s
  · exfalso
    have h1 := List.findIdx_getElem (p := fun y => !decide (toL y < toL s)) (xs := l) (w := by rw [e] at hl; exact hl)
    have h2 : ¬ toL (l[insK l s]'(e ▸ hl)) < toL s := by
      intro h3
      have h4 : (!decide (toL (l[insK l s]'(e ▸ hl)) < toL s)) = true := h1
      simp [h3] at h4
    subst e
    exact h2 h
  · omega
theorem insK_stop {l : List ByteArray} {s : ByteArray} {k : Nat} (hk : k ≤ insK l s) (hl : k < l.length) (h : ¬ toL l[k] < toL s) : k = insK l s := by
  by_cases e : k < insK l s
  · have := List.not_of_lt_findIdx (p := fun y => !decide (toL y < toL s)) (xs := l) (i := k) e
    simp at this
    exact absurd (by simpa using this) h
  · omega
theorem insert_nil (s : ByteArray) (w : World) :
    Calls Try.prog 31 #[.slice none 0 0, .string s] w fun e w' => ∃ v, e = .returned v ∧ OwnS w' w.heap.size v [s] ∧ Below w.heap.size w w' := by
  go_enter Try.func31, Try.ntmps31
  go_wp2_with fail
  go_loopg [5] 1 (fun m iv wz => iv = .int .i64 0 ∧ wz = w)
  case atStart => exact ⟨rfl, rfl⟩
  case round =>
    obtain ⟨rfl, hwz⟩ := hrel
    rw [hwz]
    clear hwz
    go_wp2_with (first
      | ((with_reducible refine gate_builtin (b := .append) (xs := #[.tmp 26, .tmp 28]) rfl ?_); at_builtin; go_loud (refine Kd.R_append Kd.string (w0 := w) (W := w) w.heap.size rfl (.tmp 26) (.tmp 28) 23 9 (.string ByteArray.empty) 16 rfl (by kernel_rfl) info9m rfl (by decide) (by decide) (.slice none 0 0) [] s [.string s] (fun _ => True) (fun _ => False) rfl rfl rfl (fun _ h => h.elim) (fun _ _ => trivial) (Kd.R_nil _ _ _ _ _) (Below.refl _ _) (Nat.le_refl _) (by simp) ?_); intro v4 w4 r4 b4 g4 at4
         obtain ⟨A4, c4, rfl⟩ := Kd.R_slice r4
         have R4 := Lib.hid r4
         have B4 := Lib.hid b4
         clear r4 b4 g4 at4)
      | ((with_reducible refine gate_builtin (b := .append) (xs := #[.tmp 30, .tmp 33]) rfl ?_); at_builtin; go_loud (refine Kd.R_append_rows Kd.string (w0 := w) (W := w4) w.heap.size rfl (.tmp 30) (.tmp 33) 23 9 (.string ByteArray.empty) 16 rfl (by kernel_rfl) info9m rfl (by decide) (by decide) (.slice A4 ([] ++ [s]).length c4) ([] ++ [s]) [] none 0 0 (fun _ => True) (fun _ => False) rfl rfl R4.out (Kd.C_nil Kd.string w4) (fun _ _ h => h) (fun _ h => h.elim) (fun _ _ => trivial) B4.out B4.out.size (by simp) ?_); intro v5 w5 r5 b5 g5 at5
         obtain ⟨A5, c5, rfl⟩ := Kd.R_slice r5
         have R5 := Lib.hid r5
         have B5 := Lib.hid b5
         clear r5 b5 g5 at5)
      | fail)
    go_ret
    exact ⟨_, rfl, Kd.own_of_R R5.out, B5.out⟩
theorem insert_c (A : Option Addr) (c : Nat) (l : List ByteArray) (s : ByteArray) (base : Nat) (w : World) (hO : OwnS w base (.slice A l.length c) l) (hl : l.length ≤ 16777216) :
    Calls Try.prog 31 #[.slice A l.length c, .string s] w fun e w' => ∃ v, e = .returned v ∧ OwnS w' w.heap.size v (insS l s) ∧ Below w.heap.size w w' := by
  obtain ⟨hC, hlc, hfl⟩ := OwnS.reads hO
  rcases hfl with ⟨rfl, rfl⟩ | ⟨ga, oa, rfl⟩
  · obtain rfl : l = [] := List.length_eq_zero_iff.1 (by omega)
    exact insert_nil s w
  obtain ⟨ad, had⟩ : ∃ ad : Addr, ad = ⟨ga, oa, none⟩ := ⟨_, rfl⟩
  rw [← had] at hC ⊢
  clear had hO
  have HC := Lib.hid hC
  have hli : (l.length : Int) ≤ 16777216 := by omega
  have hlci : (l.length : Int) ≤ (c : Int) := by omega
  have HK := Lib.hid (insK_le l s)
  clear hC
  go_enter Try.func31, Try.ntmps31
  go_wp2_with fail
  go_loopg [5] l.length (fun m iv wz => ∃ (k : Nat), iv = .int .i64 k ∧ wz = w ∧ Aside1 (k + m = l.length ∧ k ≤ insK l s))
  case atStart => exact ⟨0, rfl, rfl, ⟨by omega, by omega⟩⟩
  case round =>
    obtain ⟨k, rfl, hwz, ⟨hk, hn⟩⟩ := hrel
    rw [hwz]
    clear hwz
    have HKM := Lib.hid hk
    have HN := Lib.hid hn
    have hkl0 : k ≤ l.length := by omega
    have hkli0 : (k : Int) ≤ (l.length : Int) := by omega
    have hkci0 : (k : Int) ≤ (c : Int) := by omega
    clear hk hn
    by_cases hgo : ∃ h : k < l.length, toL (l[k]'h) < toL s
    · obtain ⟨hkl, hlt⟩ := hgo
      have hki : (k : Int) < (l.length : Int) := by omega
      obtain ⟨ad', hAd, e1⟩ := name_at HC.out rfl k hkl
      obtain rfl : ad = ad' := by injection hAd
      have hN2 := Lib.hid (insK_step HN.out hkl hlt)
      obtain ⟨x, hx⟩ : ∃ x, l[k] = x := ⟨_, rfl⟩
      rw [hx] at e1 hlt
      have hbl : Op.bytesLess x.toList s.toList = true := by rw [less_eq]; exact decide_eq_true hlt
      clear hlt hx
      go_wp2_with fail
      go_roundg (gk - 1)
      case measure => have := HKM.out; omega
      case rel => exact ⟨k + 1, (by simp), rfl, ⟨by have := HKM.out; omega, hN2.out⟩⟩
    · have hke : k = insK l s := by
        by_cases hkl : k < l.length
        · exact insK_stop HN.out hkl (fun h => hgo ⟨hkl, h⟩)
        · have := HK.out; have := HN.out; omega
      have HKE := Lib.hid hke
      have hgo2 := hgo
      clear hke hgo
      have HP := Lib.hid (C_pre HC.out k hkl0)
      have HD := Lib.hid (C_drop HC.out k (l.length - k) (by omega))
      by_cases hkl : k < l.length
      · have hki : (k : Int) < (l.length : Int) := by omega
        obtain ⟨ad', hAd, e1⟩ := name_at HC.out rfl k hkl
        obtain rfl : ad = ad' := by injection hAd
        obtain ⟨x, hx⟩ : ∃ x, l[k] = x := ⟨_, rfl⟩
        have hlt : ¬ toL x < toL s := fun h => hgo2 ⟨hkl, by rw [hx]; exact h⟩
        rw [hx] at e1
        have hbl : Op.bytesLess x.toList s.toList = false := by rw [less_eq]; exact decide_eq_false hlt
        clear hlt hx hgo2
        go_wp2_with (first
          | ((with_reducible refine gate_builtin (b := .append) (xs := #[.tmp 21, .tmp 24]) rfl ?_); at_builtin; go_loud (refine Kd.R_append_rows Kd.string (w0 := w) (W := w) w.heap.size rfl (.tmp 21) (.tmp 24) 23 9 (.string ByteArray.empty) 16 rfl (by kernel_rfl) info9m rfl (by decide) (by decide) (.slice none 0 0) [] (l.take k) (some ad) k c (fun _ => True) (fun _ => False) rfl rfl (Kd.R_nil _ _ _ _ _) HP.out (fun _ _ h => h) (fun _ h => h.elim) (fun _ _ => trivial) (Below.refl _ _) (Nat.le_refl _) (by simp; omega) ?_); intro v3 w3 r3 b3 g3 at3
             obtain ⟨p3, hp3⟩ : ∃ p3, p3 = ([] : List ByteArray) ++ l.take k := ⟨_, rfl⟩
             rw [← hp3] at r3
             have hp3l : p3.length ≤ 16777216 := by rw [hp3]; simp; omega
             obtain ⟨A3, c3, rfl⟩ := Kd.R_slice r3
             have HP3 := Lib.hid hp3
             have R3 := Lib.hid r3
             have B3 := Lib.hid b3
             clear r3 b3 g3 at3 hp3)
          | ((with_reducible refine gate_builtin (b := .append) (xs := #[.tmp 26, .tmp 28]) rfl ?_); at_builtin; go_loud (refine Kd.R_append Kd.string (w0 := w) (W := w3) w.heap.size rfl (.tmp 26) (.tmp 28) 23 9 (.string ByteArray.empty) 16 rfl (by kernel_rfl) info9m rfl (by decide) (by decide) (.slice A3 p3.length c3) p3 s [.string s] (fun _ => True) (fun _ => False) rfl rfl rfl (fun _ h => h.elim) (fun _ _ => trivial) R3.out B3.out B3.out.size (by omega) ?_); intro v4 w4 r4 b4 g4 at4
             obtain ⟨p4, hp4⟩ : ∃ p4, p4 = p3 ++ [s] := ⟨_, rfl⟩
             rw [← hp4] at r4
             have hp4l : p4.length ≤ 16777217 := by rw [hp4]; simp; omega
             obtain ⟨A4, c4, rfl⟩ := Kd.R_slice r4
             have HP4 := Lib.hid hp4
             have R4 := Lib.hid r4
             have B4 := Lib.hid b4
             clear r4 b4 g4 at4 hp4)
          | ((with_reducible refine gate_builtin (b := .append) (xs := #[.tmp 30, .tmp 33]) rfl ?_); at_builtin; go_loud (refine Kd.R_append_rows Kd.string (w0 := w) (W := w4) w.heap.size rfl (.tmp 30) (.tmp 33) 23 9 (.string ByteArray.empty) 16 rfl (by kernel_rfl) info9m rfl (by decide) (by decide) (.slice A4 p4.length c4) p4 (l.drop k) (some (ad.add k)) (l.length - k) (c - k) (fun _ => True) (fun _ => False) rfl rfl R4.out (Kd.C_below HD.out B4.out) (fun _ _ h => h) (fun _ h => h.elim) (fun _ _ => trivial) B4.out B4.out.size (by first | omega | (simp; omega)) ?_); intro v5 w5 r5 b5 g5 at5
             obtain ⟨p5, hp5⟩ : ∃ p5, p5 = p4 ++ l.drop k := ⟨_, rfl⟩
             rw [← hp5] at r5
             obtain ⟨A5, c5, rfl⟩ := Kd.R_slice r5
             have HP5 := Lib.hid hp5
             have R5 := Lib.hid r5
             have B5 := Lib.hid b5
             clear r5 b5 g5 at5 hp5)
          | fail)
        go_ret
        refine ⟨_, rfl, ?_, B5.out⟩
        have h := Kd.own_of_R R5.out
        have e5 : insS l s = p5 := by rw [HP5.out, HP4.out, HP3.out]; unfold insS; rw [← HKE.out]; simp
        rw [e5]
        exact h
      · have hki : ¬ (k : Int) < (l.length : Int) := by omega
        go_wp2_with (first
          | ((with_reducible refine gate_builtin (b := .append) (xs := #[.tmp 21, .tmp 24]) rfl ?_); at_builtin; go_loud (refine Kd.R_append_rows Kd.string (w0 := w) (W := w) w.heap.size rfl (.tmp 21) (.tmp 24) 23 9 (.string ByteArray.empty) 16 rfl (by kernel_rfl) info9m rfl (by decide) (by decide) (.slice none 0 0) [] (l.take k) (some ad) k c (fun _ => True) (fun _ => False) rfl rfl (Kd.R_nil _ _ _ _ _) HP.out (fun _ _ h => h) (fun _ h => h.elim) (fun _ _ => trivial) (Below.refl _ _) (Nat.le_refl _) (by simp; omega) ?_); intro v3 w3 r3 b3 g3 at3
             obtain ⟨p3, hp3⟩ : ∃ p3, p3 = ([] : List ByteArray) ++ l.take k := ⟨_, rfl⟩
             rw [← hp3] at r3
             have hp3l : p3.length ≤ 16777216 := by rw [hp3]; simp; omega
             obtain ⟨A3, c3, rfl⟩ := Kd.R_slice r3
             have HP3 := Lib.hid hp3
             have R3 := Lib.hid r3
             have B3 := Lib.hid b3
             clear r3 b3 g3 at3 hp3)
          | ((with_reducible refine gate_builtin (b := .append) (xs := #[.tmp 26, .tmp 28]) rfl ?_); at_builtin; go_loud (refine Kd.R_append Kd.string (w0 := w) (W := w3) w.heap.size rfl (.tmp 26) (.tmp 28) 23 9 (.string ByteArray.empty) 16 rfl (by kernel_rfl) info9m rfl (by decide) (by decide) (.slice A3 p3.length c3) p3 s [.string s] (fun _ => True) (fun _ => False) rfl rfl rfl (fun _ h => h.elim) (fun _ _ => trivial) R3.out B3.out B3.out.size (by omega) ?_); intro v4 w4 r4 b4 g4 at4
             obtain ⟨p4, hp4⟩ : ∃ p4, p4 = p3 ++ [s] := ⟨_, rfl⟩
             rw [← hp4] at r4
             have hp4l : p4.length ≤ 16777217 := by rw [hp4]; simp; omega
             obtain ⟨A4, c4, rfl⟩ := Kd.R_slice r4
             have HP4 := Lib.hid hp4
             have R4 := Lib.hid r4
             have B4 := Lib.hid b4
             clear r4 b4 g4 at4 hp4)
          | ((with_reducible refine gate_builtin (b := .append) (xs := #[.tmp 30, .tmp 33]) rfl ?_); at_builtin; go_loud (refine Kd.R_append_rows Kd.string (w0 := w) (W := w4) w.heap.size rfl (.tmp 30) (.tmp 33) 23 9 (.string ByteArray.empty) 16 rfl (by kernel_rfl) info9m rfl (by decide) (by decide) (.slice A4 p4.length c4) p4 (l.drop k) (if c = k then some ad else some (ad.add k)) (l.length - k) (c - k) (fun _ => True) (fun _ => False) rfl rfl R4.out ⟨by simp, by omega, fun hp => absurd hp (by omega)⟩ (fun _ _ h => h) (fun _ h => h.elim) (fun _ _ => trivial) B4.out B4.out.size (by first | omega | (simp; omega)) ?_); intro v5 w5 r5 b5 g5 at5
             obtain ⟨p5, hp5⟩ : ∃ p5, p5 = p4 ++ l.drop k := ⟨_, rfl⟩
             rw [← hp5] at r5
             obtain ⟨A5, c5, rfl⟩ := Kd.R_slice r5
             have HP5 := Lib.hid hp5
             have R5 := Lib.hid r5
             have B5 := Lib.hid b5
             clear r5 b5 g5 at5 hp5)
          | fail)
        all_goals
          go_ret
          refine ⟨_, rfl, ?_, B5.out⟩
          have h := Kd.own_of_R R5.out
          have e5 : insS l s = p5 := by rw [HP5.out, HP4.out, HP3.out]; unfold insS; rw [← HKE.out]; simp
          rw [e5]
          exact h
end Go.Proofs.Ytlphpmdmlcphbaa.Or
