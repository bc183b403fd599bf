/- Texts merged: a section each. -/
import Derived.Test.YtochnokfcfmgnaaMG
import Derived.Test.YtochnokfcfmgnaaMF
import Derived.Test.YtochnokfcfmgnaaMH
section
/- Seat F: what a commit leaves on the disk, and that a root's load gives it, plain. -/
namespace Go.Proofs.Ytochnokfcfmgnaa.St
open Go Go.RowKit Go.Proofs.Ytochnokfcfmgnaa.Mem Go.Proofs.YtochnokfcfmgnaaW.PrintWords Go.Proofs.Ytochnokfcfmgnaa.Dk Go.Maps Go.ChangeMaps Go.Proofs.Ytochnokfcfmgnaa.Sh Go.Proofs.Ytochnokfcfmgnaa.Sp
set_option linter.unusedVariables false
set_option linter.unusedSimpArgs false
set_option maxRecDepth 100000
set_option maxHeartbeats 1000000
theorem getD_lt {l : List Int} {k : Nat} (h : k < l.length) : l.getD k 0 = l[k] := by simp [h]
theorem getD_ge {l : List Int} {k : Nat} (h : l.length ≤ k) : l.getD k 0 = 0 := by simp [h]
theorem fld_of {a b c r : List Int} (h : r = a ++ b ++ c) (lo len : Nat) (h1 : a.length = lo) (h2 : b.length = len) : fldV r lo len = numV b := by
  subst h h1 h2
  unfold fldV
  rw [List.append_assoc, List.drop_left, List.take_left]
theorem root_flds (S : SV) (h0 : 0 ≤ S.epoch) (h1 : S.epoch < 18446744073709551616) (h2 : 0 ≤ firstT S) (h3 : firstT S < 4294967296) (h4 : S.tabs.length < 4294967296) :
    fldV (rootB S) 0 8 = S.epoch ∧ fldV (rootB S) 24 8 = S.epoch ∧ fldV (rootB S) 16 8 = 0 ∧ fldV (rootB S) 8 4 = firstT S ∧ fldV (rootB S) 12 4 = (S.tabs.length : Int) := by
  have p8 : ((256 ^ 8 : Nat) : Int) = 18446744073709551616 := by decide
  have p4 : ((256 ^ 4 : Nat) : Int) = 4294967296 := by decide
  unfold rootB
  refine ⟨?_, ?_, ?_, ?_, ?_⟩
  · rw [fld_of (a := []) (b := leB S.epoch 8) (c := leB (firstT S) 4 ++ leB (S.tabs.length : Int) 4 ++ leB 0 8 ++ leB S.epoch 8) (by simp [List.append_assoc]) 0 8 rfl (leB_len _ _)]
    exact numV_leB 8 _ h0 (by omega)
  · rw [fld_of (a := leB S.epoch 8 ++ leB (firstT S) 4 ++ leB (S.tabs.length : Int) 4 ++ leB 0 8) (b := leB S.epoch 8) (c := []) (by simp [List.append_assoc]) 24 8 (by simp [leB_len]) (leB_len _ _)]
    exact numV_leB 8 _ h0 (by omega)
  · rw [fld_of (a := leB S.epoch 8 ++ leB (firstT S) 4 ++ leB (S.tabs.length : Int) 4) (b := leB 0 8) (c := leB S.epoch 8) (by simp [List.append_assoc]) 16 8 (by simp [leB_len]) (leB_len _ _)]
    exact numV_leB 8 _ (by omega) (by omega)
  · rw [fld_of (a := leB S.epoch 8) (b := leB (firstT S) 4) (c := leB (S.tabs.length : Int) 4 ++ leB 0 8 ++ leB S.epoch 8) (by simp [List.append_assoc]) 8 4 (by simp [leB_len]) (leB_len _ _)]
    exact numV_leB 4 _ h2 (by omega)
  · rw [fld_of (a := leB S.epoch 8 ++ leB (firstT S) 4) (b := leB (S.tabs.length : Int) 4) (c := leB 0 8 ++ leB S.epoch 8) (by simp [List.append_assoc]) 12 4 (by simp [leB_len]) (leB_len _ _)]
    exact numV_leB 4 _ (by omega) (by omega)
/-- The table of pages that all lie somewhere. -/
def entE (f : PM) (ks : List Nat) : List Int := ks.flatMap (fun q => enc q ++ enc (placeOf f q))
def entN (f : PM) (ks : List Nat) : List Int := ks.flatMap (fun q => [((q : Nat) : Int), ((placeOf f q : Nat) : Int)])
def Placed (f : PM) (ks : List Nat) : Prop := ∀ q ∈ ks, ∃ p, f q = some p ∧ p.1 ≠ 0
theorem place_of {f : PM} {q : Nat} {p : Nat × List Int} (h : f q = some p) : placeOf f q = p.1 := by unfold placeOf; rw [h]
theorem tabF_placed (f : PM) (pl : List Int) : ∀ ks, Placed f ks → tabF f pl ks = (entE f ks, []) := by
  refine snoc_ind (fun _ => rfl) (fun l q ih h => ?_)
  obtain ⟨p, hp, hp0⟩ := h q (by simp)
  rw [tabF_snoc, ih (fun x hx => h x (by simp [hx]))]
  unfold tabStep
  rw [hp]
  dsimp only
  rw [if_neg hp0, if_neg hp0]
  unfold entE
  rw [List.flatMap_append]
  simp [place_of hp, List.append_assoc]
theorem rd_enc9 {n : Nat} (h : n < 34359738368) (r : List Int) : rdP 9 true (enc n ++ r) = some (n, r) := by
  have h2 : (128 : Nat) ^ (8 + 1) = 9223372036854775808 := by decide
  exact rd_enc 8 n true r (by rw [h2]; omega) (.inr rfl)
theorem numsV_cons (k : Nat) (y : Int) (r : List Int) : numsV (k + 1) (y :: r) = match rdP 9 true (y :: r) with
    | none => none
    | some (n, r') => match numsV k r' with
      | none => none
      | some l => some ((n : Int) :: l) := rfl
theorem nums_one {d n : Nat} (h : n < 34359738368) (r : List Int) : numsV (d + 1) (enc n ++ r) = match numsV d r with | none => none | some l => some ((n : Int) :: l) := by
  have hne : enc n ++ r ≠ [] := by
    intro e
    have := congrArg List.length e
    have h2 := enc_pos n
    rw [List.length_append, List.length_nil] at this
    omega
  obtain ⟨y, t, ht⟩ := List.exists_cons_of_ne_nil hne
  have hr := rd_enc9 h r
  rw [ht] at hr ⊢
  rw [numsV_cons, hr]
theorem nums_ent (f : PM) : ∀ (ks : List Nat) (d : Nat), (∀ q ∈ ks, q < 34359738368 ∧ placeOf f q < 34359738368) → (entE f ks).length ≤ d → numsV d (entE f ks) = some (entN f ks)
  | [], d, _, _ => by cases d <;> rfl
  | q :: ks, d, h, hd => by
    have e : entE f (q :: ks) = enc q ++ (enc (placeOf f q) ++ entE f ks) := by unfold entE; rw [List.flatMap_cons, List.append_assoc]
    have h1 := enc_pos q
    have h2 := enc_pos (placeOf f q)
    have hl := congrArg List.length e
    simp only [List.length_append] at hl
    obtain ⟨d, rfl⟩ : ∃ m, d = m + 1 + 1 := ⟨d - 2, by omega⟩
    have hq := h q (by simp)
    rw [e, nums_one hq.1, nums_one hq.2, nums_ent f ks d (fun x hx => h x (by simp [hx])) (by omega)]
    rfl
/-- What lies on a disk: a committed store's root, tables and pages; and that the other root is older. -/
structure Lies (n : Nat) (x : DV) (S : SV) : Prop where
  root : sec x.seen (4 * S.root) = rootB S
  cnt : S.tabs.length = pagesN (entE S.kept (keysN S.kept)).length
  tab : ∀ k (h : k < S.tabs.length), Pg.pageAt x.seen (S.tabs[k]).toNat = Hand.packed 2 (tabPart (entE S.kept (keysN S.kept)) S.tabs k)
  data : ∀ i p, S.kept i = some p → Pg.pageAt x.seen p.1 = Hand.packed (idV i) p.2
  old : rootOk (sec x.seen (4 * (1 - S.root))) → fldV (sec x.seen (4 * (1 - S.root))) 0 8 < S.epoch
  ep : S.epoch < 18446744073709551616
theorem Ok.placed {n : Nat} {S : SV} (h : Ok n S) : Placed S.kept (keysN S.kept) := fun q hq => by
  obtain ⟨p, hp⟩ := Option.isSome_iff_exists.1 (mem_keysN.1 hq).2
  exact ⟨p, hp, by have := (h.kept q p hp).2.1; omega⟩
theorem tabL_lies {n : Nat} {x : DV} {S : SV} (hO : Ok n S) (hI : Inj S) (hL : Lies n x S) (B : List Int) (hB : B = entE S.kept (keysN S.kept)) (hbb : ∀ y ∈ B, 0 ≤ y ∧ y < 256) : ∀ (d k : Nat), k + d = S.tabs.length → tabL x.seen (n / 4) d (S.tabs.getD k 0) (S.tabs.take k) (B.take (k * 112)) = some (S.tabs, B)
  | 0, k, h => by
    have hc := hL.cnt
    rw [← hB] at hc
    unfold pagesN at hc
    rw [getD_ge (by omega), tabL, if_pos rfl, List.take_of_length_le (by omega), List.take_of_length_le (by omega)]
  | d + 1, k, h => by
    have hk : k < S.tabs.length := by omega
    have hr := hO.tabs _ (List.getElem_mem hk)
    have ht := hL.tab k hk
    rw [← hB] at ht
    obtain ⟨q1, q2⟩ := tabPart_ok B S.tabs hbb k
    have hu := Pp.unp_packed 2 _ (by omega) q1
    have hn2 := hO.n2
    have hnm : ¬ (S.tabs[k] ∈ 0 :: 1 :: S.tabs.take k ∨ ((n / 4 : Nat) : Int) ≤ S.tabs[k]) := by
      rintro (h1 | h1)
      · rcases List.mem_cons.1 h1 with h2 | h2
        · omega
        · rcases List.mem_cons.1 h2 with h3 | h3
          · omega
          · obtain ⟨i, hi, he⟩ := List.mem_iff_getElem.1 h3
            rw [List.getElem_take] at he
            rw [List.length_take] at hi
            exact List.pairwise_iff_getElem.1 hI.nod i k (by omega) hk (by omega) he
      · omega
    have hlen : 4 ≤ (tabPart B S.tabs k).length := by unfold tabPart; rw [List.length_append, leB_len]; omega
    rw [getD_lt hk, tabL, if_neg hnm, ht, hu]
    dsimp only
    rw [if_neg (by rintro (h1 | h1 | h1) <;> omega)]
    have e1 : numV ((tabPart B S.tabs k).take 4) = S.tabs.getD (k + 1) 0 := by
      unfold tabPart
      rw [List.take_append_of_le_length (by rw [leB_len]; omega), List.take_of_length_le (by rw [leB_len]; omega)]
      have p4 : ((256 ^ 4 : Nat) : Int) = 4294967296 := by decide
      refine numV_leB 4 _ ?_ ?_ <;> (by_cases h5 : k + 1 < S.tabs.length)
      · rw [getD_lt h5]; have := hO.tabs _ (List.getElem_mem h5); omega
      · rw [getD_ge (by omega)]; omega
      · rw [getD_lt h5]; have := hO.tabs _ (List.getElem_mem h5); omega
      · rw [getD_ge (by omega)]; omega
    have e2 : (tabPart B S.tabs k).drop 4 = (B.take ((k + 1) * 112)).drop (k * 112) := by
      unfold tabPart
      rw [List.drop_append_of_le_length (by rw [leB_len]; omega), List.drop_of_length_le (by rw [leB_len]; omega), List.nil_append]
    have e3 : B.take (k * 112) ++ (B.take ((k + 1) * 112)).drop (k * 112) = B.take ((k + 1) * 112) := by
      have h1 : B.take (k * 112) = (B.take ((k + 1) * 112)).take (k * 112) := by rw [List.take_take, Nat.min_eq_left (by omega)]
      rw [h1, List.take_append_drop]
    have e4 : S.tabs.take k ++ [S.tabs[k]] = S.tabs.take (k + 1) := by rw [List.take_add_one, List.getElem?_eq_getElem hk]; rfl
    rw [e1, e2, e3, e4]
    exact tabL_lies hO hI hL B hB hbb d (k + 1) (by omega)
theorem entL_lies {n : Nat} {x : DV} {S : SV} (hO : Ok n S) (hI : Inj S) (hL : Lies n x S) : ∀ (ks : List Nat) (prev : Option Int) (tk : List Int) (f : PM), (∀ q ∈ ks, ∃ p, S.kept q = some p) → ks.Pairwise (· < ·) → (∀ q ∈ ks, ∀ a, prev = some a → a < (q : Int)) → (∀ q ∈ ks, ((placeOf S.kept q : Nat) : Int) ∉ tk) →
    entL x.seen (n / 4) (entN S.kept ks) prev tk f = some (fun j => if j ∈ ks then S.kept j else f j)
  | [], prev, tk, f, _, _, _, _ => by
    show entL x.seen (n / 4) [] prev tk f = _
    unfold entL
    simp
  | q :: ks, prev, tk, f, h1, h2, h3, h4 => by
    obtain ⟨p, hp⟩ := h1 q (by simp)
    have hk := hO.kept q p hp
    have hpl := place_of hp
    have hd := hL.data q p hp
    have hu := Pp.unp_packed (idV q) p.2 (idV_range hk.1) hk.2.2.2.1
    have hn4 := h4 q (by simp)
    rw [hpl] at hn4
    have e : entN S.kept (q :: ks) = (q : Int) :: (p.1 : Int) :: entN S.kept ks := by unfold entN; rw [List.flatMap_cons, hpl]; rfl
    obtain ⟨r1, r2⟩ := List.pairwise_cons.1 h2
    rw [e, entL, if_neg (by
      rintro (h5 | ⟨a, h5, h6⟩ | h5 | h5)
      · omega
      · have := h3 q (by simp) a h5; omega
      · exact hn4 h5
      · have := hk.2.2.1; omega)]
    rw [show ((p.1 : Int)).toNat = p.1 by simp, show ((q : Int)).toNat = q by simp, hd, hu]
    dsimp only
    rw [if_neg (by rintro (h5 | h5) <;> exact h5 rfl)]
    rw [entL_lies hO hI hL ks (some (q : Int)) (tk ++ [(p.1 : Int)]) _ (fun y hy => h1 y (by simp [hy])) r2 (fun y hy a ha => by injection ha with ha; have := r1 y hy; omega) (fun y hy hm => ?_)]
    · congr 1
      funext j
      by_cases hj : j ∈ ks
      · rw [if_pos hj, if_pos (by simp [hj])]
      · rw [if_neg hj]
        by_cases hjq : j = q
        · subst hjq; rw [if_pos rfl, if_pos (by simp), hp]
        · rw [if_neg hjq, if_neg (by simp [hj, hjq])]
    · rcases List.mem_append.1 hm with h5 | h5
      · exact h4 y (by simp [hy]) h5
      · rw [List.mem_singleton] at h5
        obtain ⟨p', hp'⟩ := h1 y (by simp [hy])
        rw [place_of hp'] at h5
        have := hI.inj y q p' p hp' hp (by omega)
        have h6 := r1 y hy
        omega
theorem ent_len {n : Nat} {S : SV} (hO : Ok n S) : entE S.kept (keysN S.kept) = (St.tab S.kept []).1 := by
  unfold St.tab
  rw [tabF_placed _ _ _ hO.placed]
/-- What lies there is loaded. -/
theorem load_lies {n : Nat} {x : DV} {S : SV} (hO : Ok n S) (hI : Inj S) (hL : Lies n x S) : loadV x (n / 4) S.root.toNat = some { S with x := x, now := S.kept } := by
  obtain ⟨B, hB⟩ : ∃ B, B = entE S.kept (keysN S.kept) := ⟨_, rfl⟩
  have hbb : ∀ y ∈ B, 0 ≤ y ∧ y < 256 := by rw [hB, ent_len hO]; exact tab_byte _ _
  have hn2 := hO.n2
  have hft : 0 ≤ firstT S ∧ firstT S < 4294967296 := by
    unfold firstT
    cases ht : S.tabs with
    | nil => exact ⟨by decide, by decide⟩
    | cons a r => have := hO.tabs a (by rw [ht]; simp); exact ⟨by show 0 ≤ a; omega, by show a < _; omega⟩
  have htl : S.tabs.length ≤ 101 := by
    have := hL.cnt
    have h1 := nodup_len (a := S.tabs.map Int.toNat) (b := List.range 101) (nodup_map_toNat hI.nod (fun x hx => by have := hO.tabs x hx; omega)) (fun y hy => by
      obtain ⟨t, ht, rfl⟩ := List.mem_map.1 hy
      have := hO.tabs t ht
      rw [List.mem_range]
      omega)
    simpa using h1
  have hep := hO.ep
  obtain ⟨f1, f2, f3, f4, f5⟩ := root_flds S (by omega) hL.ep hft.1 hft.2 (by omega)
  have hroot : 4 * ((S.root.toNat : Nat) : Int) = 4 * S.root := by rcases hO.root with h | h <;> rw [h] <;> rfl
  have hrr : ((S.root.toNat : Nat) : Int) = S.root := by rcases hO.root with h | h <;> rw [h] <;> rfl
  unfold loadV
  rw [hroot, hL.root, if_pos ⟨by rw [f1, f2], by rw [f1]; omega, f3⟩, f4, f5, f1]
  have hT := tabL_lies hO hI hL B hB hbb S.tabs.length 0 (by omega)
  rw [List.take_zero, Nat.zero_mul, List.take_zero] at hT
  have h0 : firstT S = S.tabs.getD 0 0 := by
    unfold firstT
    cases S.tabs <;> rfl
  rw [Int.toNat_natCast, h0, hT]
  dsimp only
  have hsm : ∀ q ∈ keysN S.kept, q < 34359738368 ∧ placeOf S.kept q < 34359738368 := fun q hq => by
    obtain ⟨p, hp⟩ := Option.isSome_iff_exists.1 (mem_keysN.1 hq).2
    have := hO.kept q p hp
    rw [place_of hp]
    omega
  have hE : entsL x.seen (n / 4) S.tabs B = some S.kept := by
    unfold entsL
    rw [hB, nums_ent _ _ _ hsm (Nat.le_refl _)]
    dsimp only
    have hev : (entN S.kept (keysN S.kept)).length % 2 = 0 := by
      have : ∀ ks : List Nat, (entN S.kept ks).length = 2 * ks.length := fun ks => by
        induction ks with
        | nil => rfl
        | cons q ks ih => unfold entN at ih ⊢; rw [List.flatMap_cons, List.length_append, ih]; simp; omega
      rw [this]; omega
    rw [if_neg (by omega)]
    rw [entL_lies hO hI hL (keysN S.kept) none (0 :: 1 :: S.tabs) (fun _ => none) (fun q hq => Option.isSome_iff_exists.1 (mem_keysN.1 hq).2) (keysN_pairwise _) (fun q hq a ha => by cases ha) (fun q hq hm => ?_)]
    · congr 1
      funext j
      by_cases hj : j ∈ keysN S.kept
      · rw [if_pos hj]
      · rw [if_neg hj]
        cases hk : S.kept j with
        | none => rfl
        | some p => exact absurd (mem_keysN.2 ⟨(hO.kept j p hk).1, by rw [hk]; rfl⟩) hj
    · obtain ⟨p, hp⟩ := Option.isSome_iff_exists.1 (mem_keysN.1 hq).2
      have := hO.kept q p hp
      rw [place_of hp] at hm
      rcases List.mem_cons.1 hm with h | h
      · omega
      · rcases List.mem_cons.1 h with h | h
        · omega
        · exact hI.dis q p hp h
  rw [hE, hrr]
end Go.Proofs.Ytochnokfcfmgnaa.St
end

section
/- Seat F: what a commit writes to the disk, plain: what lies there then. -/
namespace Go.Proofs.Ytochnokfcfmgnaa.St
open Go Go.RowKit Go.Proofs.Ytochnokfcfmgnaa.Mem Go.Proofs.YtochnokfcfmgnaaW.PrintWords Go.Proofs.Ytochnokfcfmgnaa.Dk Go.Maps Go.ChangeMaps Go.Proofs.Ytochnokfcfmgnaa.Sh Go.Proofs.Ytochnokfcfmgnaa.Sp
set_option linter.unusedVariables false
set_option linter.unusedSimpArgs false
set_option maxRecDepth 100000
set_option maxHeartbeats 1000000
theorem sec_ext {l l' : List Int} {s : Int} (h : ∀ i, i < 32 → l[s.toNat * 32 + i]? = l'[s.toNat * 32 + i]?) : sec l s = sec l' s := by
  unfold sec
  apply List.ext_getElem?
  intro i
  rw [List.getElem?_take, List.getElem?_take]
  split
  · rename_i hi
    rw [List.getElem?_drop, List.getElem?_drop]
    exact h i hi
  · rfl
theorem page_ext {l l' : List Int} {p : Nat} (h : ∀ i, i < 128 → l[128 * p + i]? = l'[128 * p + i]?) : Pg.pageAt l p = Pg.pageAt l' p := by
  unfold Pg.pageAt
  apply List.ext_getElem?
  intro i
  rw [List.getElem?_take, List.getElem?_take]
  split
  · rename_i hi
    rw [List.getElem?_drop, List.getElem?_drop]
    exact h i hi
  · rfl
theorem sec_splice {l b : List Int} {m : Nat} (hl : m * 32 + 32 ≤ l.length) (hb : b.length = 32) : sec (splice l (m * 32) b) (m : Int) = b := by
  unfold sec splice
  rw [Int.toNat_natCast, List.drop_append_of_le_length (by simp; omega), List.drop_of_length_le (by simp; omega), List.nil_append, List.take_append_of_le_length (by omega), List.take_of_length_le (by omega)]
/-- Bytes are the same but within some pages (from 2 on). -/
def SameBut (l l' : List Int) (T : Nat → Prop) : Prop := l.length = l'.length ∧ ∀ t, ¬ T (t / 128) → l[t]? = l'[t]?
theorem SameBut.trans {l l' l'' : List Int} {T : Nat → Prop} (h : SameBut l l' T) (h' : SameBut l' l'' T) : SameBut l l'' T := ⟨h.1.trans h'.1, fun t ht => (h.2 t ht).trans (h'.2 t ht)⟩
theorem SameBut.mono {l l' : List Int} {T T' : Nat → Prop} (h : SameBut l l' T) (hT : ∀ p, T p → T' p) : SameBut l l' T' := ⟨h.1, fun t ht => h.2 t (fun h2 => ht (hT _ h2))⟩
theorem SameBut.refl (l : List Int) (T : Nat → Prop) : SameBut l l T := ⟨rfl, fun _ _ => rfl⟩
theorem SameBut.page {l l' : List Int} {T : Nat → Prop} (h : SameBut l l' T) {p : Nat} (hp : ¬ T p) : Pg.pageAt l p = Pg.pageAt l' p :=
  page_ext (fun i hi => h.2 _ (by rw [show (128 * p + i) / 128 = p by omega]; exact hp))
theorem SameBut.sec {l l' : List Int} {T : Nat → Prop} (h : SameBut l l' T) {s : Int} (hp : ¬ T (s.toNat / 4)) : Dk.sec l s = Dk.sec l' s :=
  sec_ext (fun i hi => h.2 _ (by rw [show (s.toNat * 32 + i) / 128 = s.toNat / 4 by omega]; exact hp))
theorem same_splice {l b : List Int} {o p : Nat} (hl : o + b.length ≤ l.length) (h1 : 128 * p ≤ o) (h2 : o + b.length ≤ 128 * p + 128) : SameBut (splice l o b) l (fun q => q = p) := by
  refine ⟨length_splice _ _ _ hl, fun t ht => splice_out _ _ _ _ hl ?_⟩
  by_cases h3 : t < o
  · exact .inl h3
  · by_cases h4 : o + b.length ≤ t
    · exact .inr h4
    · exact absurd (by omega) ht
/-- What lies there hangs on these pages alone. -/
theorem Lies.same {n : Nat} {x x' : DV} {S : SV} (hO : Ok n S) (h : Lies n x S) {T : Nat → Prop} (hs : SameBut x'.seen x.seen T) (h0 : ¬ T 0) (h1 : ¬ T 1) (ht : ∀ t ∈ S.tabs, ¬ T t.toNat) (hk : ∀ i p, S.kept i = some p → ¬ T p.1) : Lies n x' S := by
  have hT : ∀ s : Int, s = 4 * S.root ∨ s = 4 * (1 - S.root) → ¬ T (s.toNat / 4) := fun s hs => by
    have e : s.toNat / 4 = 0 ∨ s.toNat / 4 = 1 := by rcases hO.root with h | h <;> rw [h] at hs <;> omega
    rcases e with e | e <;> rw [e] <;> assumption
  have e2 := hs.sec (hT (4 * (1 - S.root)) (.inr rfl))
  exact ⟨(hs.sec (hT _ (.inl rfl))).trans h.root, h.cnt, fun k hk2 => (hs.page (ht _ (List.getElem_mem hk2))).trans (h.tab k hk2), fun i p hp => (hs.page (hk i p hp)).trans (h.data i p hp), by rw [e2]; exact h.old, h.ep⟩
theorem Good.len {x : DV} {n : Nat} (h : Dk.Good x n) : x.seen.length = n * 32 := h.seen
/-- What the pages hold behind k pages of data. -/
theorem fw_page {n : Nat} {S : SV} (hO : Ok n S) {data : List Int} (hd : ∀ p ∈ data, 2 ≤ p ∧ p < ((n / 4 : Nat) : Int)) (hnd : data.Nodup) : ∀ k, k ≤ data.length → k ≤ (freshN S.now).length →
    SameBut (fw S data k).x.seen S.x.seen (fun q => ∃ i, i < k ∧ q = (data.getD i 0).toNat) ∧ ∀ i, i < k → Pg.pageAt (fw S data k).x.seen (data.getD i 0).toNat = Hand.packed (idV ((freshN S.now).getD i 0)) (dataOf S.now ((freshN S.now).getD i 0))
  | 0, _, _ => ⟨SameBut.refl _ _, fun i h => by omega⟩
  | k + 1, h1, h2 => by
    obtain ⟨ih1, ih2⟩ := fw_page hO hd hnd k (by omega) (by omega)
    have CM := fw_ok hO hd k (by omega) (by omega)
    have hmem : (freshN S.now).getD k 0 ∈ freshN S.now := by
      rw [List.getD_eq_getElem?_getD, List.getElem?_eq_getElem (by omega)]
      exact List.getElem_mem _
    have hdm : data.getD k 0 ∈ data := by
      rw [List.getD_eq_getElem?_getD, List.getElem?_eq_getElem (by omega)]
      exact List.getElem_mem _
    obtain ⟨q1, p, q2, q3, q4, q5⟩ := CM.at_ hO hmem
    obtain ⟨b1, b2⟩ := packed_ok (d := dataOf (fw S data k).now ((freshN S.now).getD k 0)) (idV_range q1) (by rw [q3]; exact q5) (by rw [q3]; exact q4)
    have hpl := hd _ hdm
    have hdat : dataOf (fw S data k).now ((freshN S.now).getD k 0) = dataOf S.now ((freshN S.now).getD k 0) := by
      have h3 := CM.dat ((freshN S.now).getD k 0)
      unfold dataOf
      cases ha : (fw S data k).now ((freshN S.now).getD k 0) <;> cases hb : S.now ((freshN S.now).getD k 0) <;> rw [ha, hb] at h3
      all_goals first | rfl | cases h3; done | (injection h3)
    have hpn : (data.getD k 0).toNat < n / 4 := by omega
    have hseen : (fw S data (k + 1)).x.seen = splice (fw S data k).x.seen (128 * (data.getD k 0).toNat) (Hand.packed (idV ((freshN S.now).getD k 0)) (dataOf S.now ((freshN S.now).getD k 0))) := by
      have := Pg.pgN_seen CM.good CM.life hpn b1 b2
      rw [← hdat]
      exact this
    rw [← hdat] at hseen
    have hlen := CM.good.seen
    have hS := same_splice (l := (fw S data k).x.seen) (b := Hand.packed (idV ((freshN S.now).getD k 0)) (dataOf (fw S data k).now ((freshN S.now).getD k 0))) (o := 128 * (data.getD k 0).toNat) (p := (data.getD k 0).toNat) (by rw [b1, hlen]; omega) (Nat.le_refl _) (by rw [b1]; omega)
    rw [hseen]
    refine ⟨(hS.mono (fun q hq => ⟨k, by omega, hq⟩)).trans (ih1.mono (fun q ⟨i, hi, hq⟩ => ⟨i, by omega, hq⟩)), fun i hi => ?_⟩
    by_cases e : i = k
    · subst e
      rw [Pg.pageAt_same hlen hpn b1, hdat]
    · have hik : i < k := by omega
      have hne : (data.getD i 0).toNat ≠ (data.getD k 0).toNat := fun h3 => by
        rw [getD_lt (show i < data.length by omega), getD_lt (show k < data.length by omega)] at h3
        have r1 := hd _ (List.getElem_mem (show i < data.length by omega))
        have r2 := hd _ (List.getElem_mem (show k < data.length by omega))
        exact List.pairwise_iff_getElem.1 hnd i k (by omega) (by omega) hik (by omega)
      rw [hS.page hne]
      exact ih2 i hik
/-- .. and behind k pages of the table. -/
theorem tw_page {n m : Nat} {S T : SV} (hC : Cm n S T m) {b tabs : List Int} (hb : ∀ y ∈ b, 0 ≤ y ∧ y < 256) (ht : ∀ p ∈ tabs, 2 ≤ p ∧ p < ((n / 4 : Nat) : Int)) (hnd : tabs.Nodup) : ∀ k, k ≤ tabs.length →
    SameBut (tw T b tabs k).x.seen T.x.seen (fun q => ∃ i, i < k ∧ q = (tabs.getD i 0).toNat) ∧ ∀ i, i < k → Pg.pageAt (tw T b tabs k).x.seen (tabs.getD i 0).toNat = Hand.packed 2 (tabPart b tabs i)
  | 0, _ => ⟨SameBut.refl _ _, fun i h => by omega⟩
  | k + 1, h1 => by
    obtain ⟨ih1, ih2⟩ := tw_page hC hb ht hnd k (by omega)
    have CM := tw_ok hC hb ht k (by omega)
    have hdm : tabs.getD k 0 ∈ tabs := by
      rw [List.getD_eq_getElem?_getD, List.getElem?_eq_getElem (by omega)]
      exact List.getElem_mem _
    have hpl := ht _ hdm
    obtain ⟨c1, c2⟩ := tabPart_ok b tabs hb k
    obtain ⟨b1, b2⟩ := packed_ok (id := 2) (by omega) c2 c1
    have hpn : (tabs.getD k 0).toNat < n / 4 := by omega
    have hseen : (tw T b tabs (k + 1)).x.seen = splice (tw T b tabs k).x.seen (128 * (tabs.getD k 0).toNat) (Hand.packed 2 (tabPart b tabs k)) := Pg.pgN_seen CM.good CM.life hpn b1 b2
    have hlen := CM.good.seen
    have hS := same_splice (l := (tw T b tabs k).x.seen) (b := Hand.packed 2 (tabPart b tabs k)) (o := 128 * (tabs.getD k 0).toNat) (p := (tabs.getD k 0).toNat) (by rw [b1, hlen]; omega) (Nat.le_refl _) (by rw [b1]; omega)
    rw [hseen]
    refine ⟨(hS.mono (fun q hq => ⟨k, by omega, hq⟩)).trans (ih1.mono (fun q ⟨i, hi, hq⟩ => ⟨i, by omega, hq⟩)), fun i hi => ?_⟩
    by_cases e : i = k
    · subst e
      rw [Pg.pageAt_same hlen hpn b1]
    · have hik : i < k := by omega
      have hne : (tabs.getD i 0).toNat ≠ (tabs.getD k 0).toNat := fun h3 => by
        rw [getD_lt (show i < tabs.length by omega), getD_lt (show k < tabs.length by omega)] at h3
        have r1 := ht _ (List.getElem_mem (show i < tabs.length by omega))
        have r2 := ht _ (List.getElem_mem (show k < tabs.length by omega))
        exact List.pairwise_iff_getElem.1 hnd i k (by omega) (by omega) hik (by omega)
      rw [hS.page hne]
      exact ih2 i hik
/-- The pages that a commit takes: apart, and free. -/
structure Plan (n : Nat) (S : SV) (data tabs : List Int) : Prop where
  hd : ∀ p ∈ data, 2 ≤ p ∧ p < ((n / 4 : Nat) : Int)
  ht : ∀ p ∈ tabs, 2 ≤ p ∧ p < ((n / 4 : Nat) : Int)
  hl : data.length = (freshN S.now).length
  nd : data.Nodup
  nt : tabs.Nodup
  ap : ∀ y ∈ data, y ∉ tabs
  fk : ∀ y, y ∈ data ∨ y ∈ tabs → ∀ i p, S.kept i = some p → ((p.1 : Nat) : Int) ≠ y
  ft : ∀ y, y ∈ data ∨ y ∈ tabs → y ∉ S.tabs
  tn : tabs.length = pagesN (tab S.now data).1.length
theorem plan_ok {n : Nat} {S : SV} (hf : Fits S (n / 4)) : Plan n S (dataP S (n / 4)) (tabsP S (n / 4)) := by
  have e : dataP S (n / 4) ++ tabsP S (n / 4) = (freeS S (n / 4)).take ((freshN S.now).length + tabN S (n / 4)) := by
    unfold dataP tabsP
    have h1 : (freeS S (n / 4)).take (freshN S.now).length = ((freeS S (n / 4)).take ((freshN S.now).length + tabN S (n / 4))).take (freshN S.now).length := by rw [List.take_take, Nat.min_eq_left (by omega)]
    rw [h1, List.take_append_drop]
  have h2 : (dataP S (n / 4) ++ tabsP S (n / 4)).Nodup := by rw [e]; exact (freeS_nodup S (n / 4)).sublist (List.take_sublist _ _)
  have hfree : ∀ y, y ∈ dataP S (n / 4) ∨ y ∈ tabsP S (n / 4) → y ∈ freeS S (n / 4) := fun y hy => by
    have : y ∈ dataP S (n / 4) ++ tabsP S (n / 4) := List.mem_append.2 hy
    rw [e] at this
    exact List.mem_of_mem_take this
  refine ⟨dataP_range, tabsP_range, dataP_len hf, (List.nodup_append.1 h2).1, (List.nodup_append.1 h2).2.1, fun y hy ht => (List.nodup_append.1 h2).2.2 y hy y ht rfl, fun y hy i p hp => free_not_kept (hfree y hy) hp, fun y hy ht => ?_, tabsP_len hf⟩
  obtain ⟨k, _, hk2, rfl⟩ := freeS_mem.1 (hfree y hy)
  exact hk2 (.inr (.inr (.inl ht)))
/-- The disk ahead of the root: what is in use is as it was, and the new pages are there. -/
theorem pre_root {n : Nat} {S : SV} (hO : Ok n S) {data tabs : List Int} (hP : Plan n S data tabs) :
    SameBut (tw (fw S data (freshN S.now).length) (tab S.now data).1 tabs tabs.length).x.seen S.x.seen (fun q => ∃ y, (y ∈ data ∨ y ∈ tabs) ∧ q = y.toNat) ∧
    (∀ i, i < data.length → Pg.pageAt (tw (fw S data (freshN S.now).length) (tab S.now data).1 tabs tabs.length).x.seen (data.getD i 0).toNat = Hand.packed (idV ((freshN S.now).getD i 0)) (dataOf S.now ((freshN S.now).getD i 0))) ∧
    ∀ i, i < tabs.length → Pg.pageAt (tw (fw S data (freshN S.now).length) (tab S.now data).1 tabs tabs.length).x.seen (tabs.getD i 0).toNat = Hand.packed 2 (tabPart (tab S.now data).1 tabs i) := by
  have hl := hP.hl
  obtain ⟨f1, f2⟩ := fw_page hO hP.hd hP.nd (freshN S.now).length (by omega) (Nat.le_refl _)
  obtain ⟨t1, t2⟩ := tw_page (fw_ok hO hP.hd (freshN S.now).length (by omega) (Nat.le_refl _)) (tab_byte S.now data) hP.ht hP.nt tabs.length (Nat.le_refl _)
  have gm : ∀ (l : List Int) i, i < l.length → l.getD i 0 ∈ l := fun l i h => by rw [getD_lt h]; exact List.getElem_mem h
  refine ⟨(t1.mono (fun q ⟨i, hi, hq⟩ => ⟨_, .inr (gm tabs i hi), hq⟩)).trans (f1.mono (fun q ⟨i, hi, hq⟩ => ⟨_, .inl (gm data i (by omega)), hq⟩)), fun i hi => ?_, t2⟩
  rw [t1.page]
  · exact f2 i (by omega)
  · rintro ⟨j, hj, he⟩
    have h1 := hP.hd _ (gm data i hi)
    have h2 := hP.ht _ (gm tabs j hj)
    exact hP.ap _ (gm data i hi) (by rw [show data.getD i 0 = tabs.getD j 0 by omega]; exact gm tabs j hj)
end Go.Proofs.Ytochnokfcfmgnaa.St
end

section
/- Seat F: behind every commit the store lies on the disk, plain. -/
namespace Go.Proofs.Ytochnokfcfmgnaa.St
open Go Go.RowKit Go.Proofs.Ytochnokfcfmgnaa.Mem Go.Proofs.YtochnokfcfmgnaaW.PrintWords Go.Proofs.Ytochnokfcfmgnaa.Dk Go.Maps Go.ChangeMaps Go.Proofs.Ytochnokfcfmgnaa.Sh Go.Proofs.Ytochnokfcfmgnaa.Sp
set_option linter.unusedVariables false
set_option linter.unusedSimpArgs false
set_option maxRecDepth 100000
set_option maxHeartbeats 1000000
theorem firstT_range {n : Nat} {S : SV} (hO : Ok n S) : 0 ≤ firstT S ∧ firstT S < 4294967296 := by
  have hn2 := hO.n2
  unfold firstT
  cases ht : S.tabs with
  | nil => exact ⟨by decide, by decide⟩
  | cons a r => have := hO.tabs a (by rw [ht]; simp); exact ⟨by show 0 ≤ a; omega, by show a < _; omega⟩
theorem tabs_len {n : Nat} {S : SV} (hO : Ok n S) (hI : Inj S) : S.tabs.length ≤ 101 := by
  have hn2 := hO.n2
  have h1 := nodup_len (a := S.tabs.map Int.toNat) (b := List.range 101) (nodup_map_toNat hI.nod (fun x hx => by have := hO.tabs x hx; omega)) (fun y hy => by
    obtain ⟨t, ht, rfl⟩ := List.mem_map.1 hy
    have := hO.tabs t ht
    rw [List.mem_range]
    omega)
  simpa using h1
theorem root_epoch {n : Nat} {S : SV} (hO : Ok n S) (hI : Inj S) (he : S.epoch < 18446744073709551616) : fldV (rootB S) 0 8 = S.epoch := by
  have h1 := firstT_range hO
  have h2 := tabs_len hO hI
  have h3 := hO.ep
  exact (root_flds S (by omega) he h1.1 h1.2 (by omega)).1
theorem Lies.cong {n : Nat} {x : DV} {S S' : SV} (h : Lies n x S) (e1 : S'.root = S.root) (e2 : S'.epoch = S.epoch) (e3 : S'.tabs = S.tabs) (e4 : S'.kept = S.kept) : Lies n x S' := by
  have hr : rootB S' = rootB S := by unfold rootB firstT; rw [e2, e3]
  refine ⟨by rw [e1, hr]; exact h.root, by rw [e3, e4]; exact h.cnt, fun k hk => ?_, fun i p hp => h.data i p (by rw [← e4]; exact hp), by rw [e1, e2]; exact h.old, by rw [e2]; exact h.ep⟩
  have hk' : k < S.tabs.length := by rw [← e3]; exact hk
  have := h.tab k hk'
  have e5 : S'.tabs[k] = S.tabs[k] := by congr 1
  rw [e5, e4, e3]
  exact this
/-- The new root's place. -/
theorem root_other {n : Nat} {S : SV} (hO : Ok n S) : ((4 * (1 - S.root).toNat : Nat) : Int) = 4 * (1 - S.root) ∧ (1 - S.root).toNat ≤ 1 ∧ (4 * S.root).toNat / 4 ≠ (1 - S.root).toNat ∧ (4 * S.root).toNat / 4 ≤ 1 := by
  rcases hO.root with h | h <;> rw [h] <;> decide
/-- What lies there behind a new root. -/
theorem new_root {n : Nat} {S : SV} (hO : Ok n S) (hI : Inj S) (hL : Lies n S.x S) (hep : S.epoch + 1 < 18446744073709551616) {data tabs : List Int} (hP : Plan n S data tabs) {x : DV}
    (hx : SameBut x.seen (tw (fw S data (freshN S.now).length) (tab S.now data).1 tabs tabs.length).x.seen (fun q => q = (1 - S.root).toNat)) (hr : sec x.seen (4 * (1 - S.root)) = rootB (cmV S data tabs)) : Lies n x (cmV S data tabs) := by
  obtain ⟨r1, r2, r3, r4⟩ := root_other hO
  obtain ⟨p1, p2, p3⟩ := pre_root hO hP
  obtain ⟨e1, e2, e3⟩ := cm_epoch (tabs := tabs) ⟨n, hO⟩ ⟨n, hO, hP.hd, hP.hl⟩
  have hO' := cm_ok hO hP.hd hP.ht hP.hl
  have hE : entE (cmV S data tabs).kept (keysN (cmV S data tabs).kept) = (tab S.now data).1 := by
    rw [ent_len hO']
    exact cm_tab hO hP.hd hP.hl []
  have hsec : sec x.seen (4 * S.root) = sec S.x.seen (4 * S.root) := by
    rw [hx.sec r3, p1.sec]
    rintro ⟨y, hy, he⟩
    rcases hy with hy | hy
    · have := hP.hd y hy; omega
    · have := hP.ht y hy; omega
  refine ⟨by rw [e2]; exact hr, by rw [e3, hE]; exact hP.tn, fun k hk => ?_, fun i p hp => ?_, fun _ => ?_, by rw [e1]; exact hep⟩
  · rw [hE]
    have hk' : k < tabs.length := by rw [e3] at hk; exact hk
    have hm := hP.ht _ (List.getElem_mem hk')
    show Pg.pageAt x.seen (tabs[k]).toNat = Hand.packed 2 (tabPart (tab S.now data).1 tabs k)
    rw [hx.page (by omega)]
    have := p3 k hk'
    rw [getD_lt hk'] at this
    exact this
  · rw [cm_kept] at hp
    rcases cm_now hO hP.hd hP.hl (tabs := tabs) i with ⟨_, h⟩ | ⟨p0, h1, h2, h3⟩ | ⟨p0, k, h1, h2, h3, h4, h5⟩
    · rw [h] at hp; cases hp
    · rw [h3] at hp
      injection hp with hp
      subst hp
      have hk : S.kept i = some p0 := ((hO.now i p0 h1).2.1).resolve_left h2
      have hr2 := hO.kept i p0 hk
      rw [hx.page (by omega), p1.page]
      · exact hL.data i p0 hk
      · rintro ⟨y, hy, he⟩
        refine hP.fk y hy i p0 hk ?_
        rcases hy with hy | hy
        · have := hP.hd y hy; omega
        · have := hP.ht y hy; omega
    · rw [h5] at hp
      injection hp with hp
      subst hp
      have hm := hP.hd _ (List.getElem_mem h4)
      show Pg.pageAt x.seen (data[k]).toNat = Hand.packed (idV i) p0.2
      rw [hx.page (by omega)]
      have := p2 k h4
      rw [getD_lt h4] at this
      rw [this]
      have hki : (freshN S.now).getD k 0 = i := by rw [List.getD_eq_getElem?_getD, h3]; rfl
      rw [hki]
      have : dataOf S.now i = p0.2 := by unfold dataOf; rw [h1]
      rw [this]
  · rw [e2, show 1 - (1 - S.root) = S.root by omega, hsec, hL.root, root_epoch hO hI (by omega), e1]
    omega
theorem cm_seen (S : SV) (data tabs : List Int) : (cmV S data tabs).x.seen = splice (tw (fw S data (freshN S.now).length) (tab S.now data).1 tabs tabs.length).x.seen ((4 * (1 - (tw (fw S data (freshN S.now).length) (tab S.now data).1 tabs tabs.length).root).toNat) * 32) (rootB (cmV S data tabs)) := rfl
theorem cm_lies {n : Nat} {S : SV} (hO : Ok n S) (hI : Inj S) (hL : Lies n S.x S) (hep : S.epoch + 1 < 18446744073709551616) {data tabs : List Int} (hP : Plan n S data tabs) : Lies n (cmV S data tabs).x (cmV S data tabs) := by
  obtain ⟨r1, r2, r3, r4⟩ := root_other hO
  have CM := tw_ok (fw_ok hO hP.hd (freshN S.now).length (by have := hP.hl; omega) (Nat.le_refl _)) (tab_byte S.now data) hP.ht tabs.length (Nat.le_refl _)
  have hs := cm_seen S data tabs
  rw [CM.root] at hs
  have hlen := CM.good.seen
  have hn := hO.n1
  refine new_root hO hI hL hep hP ?_ ?_
  · rw [hs]
    exact same_splice (by rw [rootB_len, hlen]; omega) (by omega) (by rw [rootB_len]; omega)
  · rw [hs, ← r1]
    exact sec_splice (by rw [hlen]; omega) (rootB_len _)
theorem com_lies {n : Nat} {S : SV} (hO : Ok n S) (hI : Inj S) (hL : Lies n S.x S) (hep : S.epoch + 1 < 18446744073709551616) : Lies n (comV S (n / 4)).1.x (comV S (n / 4)).1 := by
  unfold comV
  split
  · exact cm_lies hO hI hL hep (plan_ok ‹_›)
  · exact hL
theorem put_same (S : SV) (i : Int) (d : List Int) : (putV S i d).x = S.x ∧ (putV S i d).root = S.root ∧ (putV S i d).epoch = S.epoch ∧ (putV S i d).tabs = S.tabs ∧ (putV S i d).kept = S.kept := by unfold putV; split <;> exact ⟨rfl, rfl, rfl, rfl, rfl⟩
theorem drop_same (S : SV) (i : Int) : (dropV S i).x = S.x ∧ (dropV S i).root = S.root ∧ (dropV S i).epoch = S.epoch ∧ (dropV S i).tabs = S.tabs ∧ (dropV S i).kept = S.kept := by unfold dropV; split <;> exact ⟨rfl, rfl, rfl, rfl, rfl⟩
theorem op_lies {n : Nat} {S : SV} (hO : Ok n S) (hI : Inj S) (hL : Lies n S.x S) (hep : S.epoch + 1 < 18446744073709551616) (o : OpV) : Lies n (opS (n / 4) S o).x (opS (n / 4) S o) := by
  unfold opS
  split
  · obtain ⟨h0, h1, h2, h3, h4⟩ := drop_same S o.2.1
    rw [h0]; exact hL.cong h1 h2 h3 h4
  · split
    · exact com_lies hO hI hL hep
    · split
      · exact hL.cong rfl rfl rfl rfl
      · split
        · exact hL
        · obtain ⟨h0, h1, h2, h3, h4⟩ := put_same S o.2.1 o.2.2.2.2.1
          rw [h0]; exact hL.cong h1 h2 h3 h4
theorem work_lies {n : Nat} {S : SV} (hO : Ok n S) (hI : Inj S) (hL : Lies n S.x S) {script : List OpV} (hs : ∀ o ∈ script, OpOk o) (he : S.epoch + script.length + 1 < 18446744073709551616) : ∀ k, k ≤ script.length → Lies n (workV (n / 4) (script.take k) S).x (workV (n / 4) (script.take k) S)
  | 0, _ => hL
  | k + 1, hk => by
    have ih := work_lies hO hI hL hs he k (by omega)
    have hp : script[k]? = some script[k] := List.getElem?_eq_getElem (by omega)
    rw [workV_succ hp]
    exact op_lies (work_ok hO hs k).1 (work_inj hO hI hs k) ih (by have := (work_ok hO hs k).2; omega) _
theorem keys_none : keysN (fun _ => none) = [] := by unfold keysN; rw [List.filter_eq_nil_iff]; intro a _ h; cases h
theorem new_lies {n : Nat} (h1 : 12 ≤ n) (h2 : n ≤ 400) : Lies n (newV (freshX n)).x (newV (freshX n)) := by
  have hs : (newV (freshX n)).x.seen = splice (splice (zeros (n * 32)) (4 * 32) (zeros 32)) (0 * 32) (rootB (newV (freshX n))) := rfl
  have l0 : (zeros (n * 32)).length = n * 32 := by simp [zeros]
  have z0 : (zeros 32).length = 32 := by simp [zeros]
  have l1 : (splice (zeros (n * 32)) (4 * 32) (zeros 32)).length = n * 32 := by rw [length_splice _ _ _ (by rw [l0, z0]; omega), l0]
  have hz : sec (newV (freshX n)).x.seen 4 = zeros 32 := by
    have hb := same_splice (l := splice (zeros (n * 32)) (4 * 32) (zeros 32)) (b := rootB (newV (freshX n))) (o := 0 * 32) (p := 0) (by rw [rootB_len, l1]; omega) (by omega) (by rw [rootB_len]; omega)
    rw [hs, hb.sec (s := 4) (by decide)]
    exact sec_splice (m := 4) (by rw [l0]; omega) z0
  refine ⟨?_, ?_, fun k hk => absurd hk (Nat.not_lt_zero _), (fun i p hp => by cases hp), fun hr => ?_, ?_⟩
  · rw [hs]
    exact sec_splice (m := 0) (by rw [l1]; omega) (rootB_len _)
  · show 0 = pagesN (entE (fun _ => none) (keysN (fun _ => none))).length
    rw [keys_none]; rfl
  · have hr : rootOk (sec (newV (freshX n)).x.seen 4) := hr
    rw [hz] at hr
    exact absurd hr (by decide)
  · show (1 : Int) < _; omega
theorem grown_lies {n : Nat} (h1 : 12 ≤ n) (h2 : n ≤ 400) {script : List OpV} (hs : ∀ o ∈ script, OpOk o) (hl : script.length ≤ 140737488351232) : Lies n (grownV n script).x (grownV n script) := by
  have h0 := newV_ok (fresh_good n (by omega) (by omega)) rfl h1 h2
  have he : (newV (freshX n)).epoch = 1 := rfl
  have hw := work_lies h0 (new_inj _) (new_lies h1 h2) hs (by rw [he]; omega) script.length (Nat.le_refl _)
  have hI := work_inj h0 (new_inj _) hs script.length
  rw [List.take_length] at hw hI
  have hwo := work_ok' h0 hs
  have hc := com_lies hwo.1 hI hw (by have := hwo.2; omega)
  unfold grownV endV
  split
  · exact hc
  · exact hc.cong rfl rfl rfl rfl
/-- Open gives the store that lies there. -/
theorem open_lies {n : Nat} {x : DV} {S : SV} (hO : Ok n S) (hI : Inj S) (hL : Lies n x S) : openV x (n / 4) = some { S with x := x, now := S.kept } := by
  have hl := load_lies hO hI hL
  have ho : ∀ T, loadV x (n / 4) (1 - S.root).toNat = some T → T.epoch < S.epoch := fun T hT => by
    unfold loadV at hT
    have e : 4 * (((1 - S.root).toNat : Nat) : Int) = 4 * (1 - S.root) := by rcases hO.root with h | h <;> rw [h] <;> rfl
    rw [e] at hT
    split at hT
    · rename_i hr
      have := hL.old hr
      split at hT
      · cases hT
      · split at hT
        · cases hT
        · injection hT with hT
          subst hT
          exact this
    · cases hT
  unfold openV
  obtain ⟨R, hR, hRe⟩ : ∃ R : SV, R = { S with x := x, now := S.kept } ∧ R.epoch = S.epoch := ⟨_, rfl, rfl⟩
  rw [← hR] at hl ⊢
  rcases hO.root with h | h
  · rw [h] at hl ho
    have hl : loadV x (n / 4) 0 = _ := hl
    have ho : ∀ T, loadV x (n / 4) 1 = some T → T.epoch < S.epoch := ho
    rw [hl]
    cases h1 : loadV x (n / 4) 1 with
    | none => rfl
    | some T =>
      have := ho T h1
      exact if_neg (by omega)
  · rw [h] at hl ho
    have hl : loadV x (n / 4) 1 = _ := hl
    have ho : ∀ T, loadV x (n / 4) 0 = some T → T.epoch < S.epoch := ho
    rw [hl]
    cases h1 : loadV x (n / 4) 0 with
    | none => rfl
    | some T =>
      have := ho T h1
      exact if_pos (by omega)
end Go.Proofs.Ytochnokfcfmgnaa.St
end

section
/- Seat F: ShadowBack, walked. -/
namespace Go.Proofs.Ytochnokfcfmgnaa.St
open Go Go.RowKit Go.Proofs.Ytochnokfcfmgnaa.Mem Go.Proofs.YtochnokfcfmgnaaW.PrintWords Go.Proofs.Ytochnokfcfmgnaa.Dk Go.Maps Go.ChangeMaps Go.Proofs.Ytochnokfcfmgnaa.Sh Go.Proofs.Ytochnokfcfmgnaa.Sp
set_option linter.unusedVariables false
set_option linter.unusedSimpArgs false
set_option maxRecDepth 100000
set_option maxHeartbeats 16000000
open PShadowCrashes (S89 k89 rd_T89 z89)
theorem Pages.carry {w w' : World} {own own' : Nat → Nat} {v : Value} {l : List S89} (h : Pages w own v l) {T : Nat → Prop} (ho : Only w w' T) (hT : ∀ b, own b = 0 → ¬ T b) (hq : ∀ k, k < w.heap.size → own' k = own k) : Pages w' own' v l := by
  refine ⟨?_, h.2⟩
  have h2 := Kd.R_mono (Kd.R_bound h.1) (ok' := fun b => own b = 0 ∧ b < w.heap.size) (fun b hb => ⟨hb.1, hb.2.2.1⟩)
  exact Kd.R_mono (Kd.R_step h2 (fun b hb hl => ho.block b hl (hT b hb.1))) (fun b hb => by rw [hq b hb.2]; exact hb.1)
theorem grown_now (n : Nat) (script : List OpV) : (grownV n script).now = (grownV n script).kept := by
  unfold grownV endV
  split
  · rename_i h
    unfold comV at h ⊢
    split
    · rfl
    · rename_i hf
      rw [if_neg hf] at h
      cases h
  · rfl
end Go.Proofs.Ytochnokfcfmgnaa.St
end
