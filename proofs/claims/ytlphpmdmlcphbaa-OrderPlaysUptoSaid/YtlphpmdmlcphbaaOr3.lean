/- Seat E: order.twice, walked. -/
import Derived.Test.YtlphpmdmlcphbaaOr2
import Derived.Deep.DeepMust
namespace Go.Proofs.Ytlphpmdmlcphbaa.Or
open Go.RowKit Go.Proofs.Ytlphpmdmlcphbaa.Mem Go.Proofs.YtlphpmdmlcphbaaW.PrintWords Go.Maps Go.Proofs.Ytlphpmdmlcphbaa.Om
set_option linter.unusedVariables false
set_option linter.unusedSimpArgs false
set_option maxRecDepth 100000
set_option maxHeartbeats 4000000
/-- What the names of a list may be. -/
def Fine (l : List Vo) : Prop := (∀ v ∈ l, v.1.size ≤ maxLen ∧ ∀ u ∈ v.2, u.size ≤ maxLen) ∧ tot l ≤ 4194304 ∧ l.length ≤ 4194304
/-- The contract of slices.Min at names of the call's own: mn is the least. -/
def MinC (mn : List ByteArray → ByteArray) : Prop := ∀ (W : World) (base : Nat) (v : Value) (b : List ByteArray), OwnS W base v b → b ≠ [] → b.length ≤ 16777216 → Calls Try.prog 20 #[v] W fun e W' => e = .returned (.string (mn b)) ∧ Below W.heap.size W W'
theorem twice_c (mn : List ByteArray → ByteArray) (MIN : Hid (MinC mn)) (A : Option Addr) (c : Nat) (l : List Vo) (w : World) (hC : VC w A l) (hc : l.length ≤ c) (hF : Fine l) :
    Calls Try.prog 17 #[.slice A l.length c] w fun e w' => e = .returned (.tuple (if bads l = [] then #[.string ByteArray.empty, .bool false] else #[.string (mn (bads l)), .bool true])) ∧ Below w.heap.size w w' := by
  have hmm := @run_makeMap Try.prog
  have HC := Lib.hid hC
  have HF := Lib.hid hF
  have hll : (l.length : Int) ≤ 4194304 := by have := hF.2.2; omega
  obtain ⟨i, hi, hz0, hz1, hz2⟩ := info9
  clear hC hF
  go_enter Try.func17, Try.ntmps17
  go_wp2_with fail
  have M0 := Lib.hid (Mp.made w)
  have B0 := Lib.hid ((Below.refl w.heap.size w).alloc (Nat.le_refl _) (.map #[] 0))
  have hms : w.heap.size < (w.alloc (.map #[] 0)).heap.size := by simp
  generalize w.alloc (.map #[] 0) = w1 at *
  go_loopg [5, 14] l.length (fun m bv iv wr => ∃ (k : Nat) (Sk Bk : List ByteArray) (Ab : Option Addr) (cb : Nat), iv = .int .i64 k ∧ bv = .slice Ab Bk.length cb ∧ Aside1 (k + m = l.length ∧ (l.take k).foldl tst ([], []) = (Sk, Bk)) ∧
    Aside1 (Mp wr w.heap.size k (mset Sk)) ∧ Aside1 (OwnS wr w.heap.size (.slice Ab Bk.length cb) Bk) ∧ Aside1 (Below w.heap.size w wr))
  case atStart =>
    exact ⟨0, [], [], none, 0, rfl, rfl, ⟨by omega, by simp⟩, ⟨by rw [mset_nil]; exact M0.out⟩, ⟨World.ownsRow_nil _ _ _ _⟩, ⟨B0.out⟩⟩
  case round =>
    obtain ⟨k, Sk, Bk, Ab, cb, rfl, rfl, ⟨hkm, hfold⟩, ⟨hM⟩, ⟨hO⟩, ⟨hB⟩⟩ := hrel
    have HM := Lib.hid hM
    have HO := Lib.hid hO
    have HB := Lib.hid hB
    have HFO := Lib.hid hfold
    have HKM := Lib.hid hkm
    have hkl : (k : Int) ≤ 4194304 := by omega
    clear hM hO hB hfold hkm
    by_cases hk : k < l.length
    · have hki : (k : Int) < (l.length : Int) := by omega
      obtain ⟨ad, Au, cu, rfl, e1, e2, hCu, hcu, hfl⟩ := HC.out k hk
      obtain ⟨name, us, hlk⟩ : ∃ name us, l[k] = (name, us) := ⟨_, _, rfl⟩
      have hmem : (name, us) ∈ l := hlk ▸ List.getElem_mem hk
      have hns : name.size ≤ maxLen := (HF.out.1 _ hmem).1
      rw [hlk] at e1 e2 hCu hcu
      dsimp only at e1 e2 hCu hcu
      have h1 := (HB.out.cell (World.block_lt_of_cell? _ _ e1)).trans e1
      have h2 := (HB.out.cell (p := ⟨(ad.add (k * 2)).block, (ad.add (k * 2)).off + 1, none⟩) (World.block_lt_of_cell? _ _ e2)).trans e2
      have HCu := Lib.hid hCu
      clear e1 e2 hCu
      have MA := Lib.hid (HM.out.alloc (.cells #[.string name, .slice Au us.length cu] 41))
      have OA := Lib.hid (OwnS.below HO.out ((Below.refl _ wr).alloc (Nat.le_refl _) (.cells #[.string name, .slice Au us.length cu] 41)))
      have SA := Lib.hid (Blk.new wr 41 [.string name, .slice Au us.length cu])
      have BA := Lib.hid (HB.out.alloc HB.out.size (.cells #[.string name, .slice Au us.length cu] 41))
      have LA : Hid (wr.heap.size < (wr.alloc (.cells #[.string name, .slice Au us.length cu] 41)).heap.size) := Lib.hid (by simp)
      have LB := Lib.hid HB.out.size
      have hlen := tst_len (l.take k) ([], [])
      rw [HFO.out] at hlen
      have hBk : Hid (Bk.length ≤ 4194304) := Lib.hid (by have := tot_take l k; have := HF.out.2.1; have := hlen.1; simp at this; omega)
      have hlook := MA.out.look u69 (zero4 _) name hns
      rw [mset_get] at hlook
      have hn5 : k < maxLen := by unfold maxLen; omega
      clear hlen
      have NW : Hid (∀ j u, ([.string name] : List Value)[j]? = some u → ((wr.alloc (.cells #[.string name, .slice Au us.length cu] 41)).alloc (.cells #[.string name] 9)).cell? ((⟨wr.heap.size + 1, 0, none⟩ : Addr).add j) = some u) := by
        refine Lib.hid fun j u hu => ?_
        have h := Blk.new (wr.alloc (.cells #[.string name, .slice Au us.length cu] 41)) 9 [.string name]
        simp only [World.size_alloc] at h
        rw [add_flat, Nat.zero_add]
        exact (h.cell j).trans hu
      by_cases hin : name ∈ Sk
      all_goals first
        | (have hno : ¬ (name ∈ Sk) := hin
           rw [decide_eq_false hin] at hlook
           go_must (obtain ⟨w3, hrun3, hm3, ho3⟩ := MA.out.update u69 hn5 name hns (.bool true)
                    rw [mset_cons] at hm3
                    have M3 := Lib.hid hm3
                    have O3 := Lib.hid (OwnS.only OA.out MA.out ho3)
                    have S3 := Lib.hid (SA.out.keep ho3 (Mp.ne MA.out SA.out))
                    have B3 := Lib.hid (((Only.of_below BA.out (fun k => k = w.heap.size)).step ho3 (fun _ _ h => h)).below (B := w.heap.size) (Nat.le_refl _) (fun q hq h => by omega))
                    have Z3 : Hid (wr.heap.size < w3.heap.size) := Lib.hid (Nat.lt_of_lt_of_le LA.out ho3.size)
                    have h31 : (w3.alloc (.map #[] 0)).cell? ⟨wr.heap.size, 1, none⟩ = some (.slice Au us.length cu) := (S3.out.alloc (.map #[] 0)).cell_at 1 _ rfl
                    clear hm3 ho3
                    obtain ⟨B2, hB2⟩ : ∃ B2, B2 = Bk := ⟨_, rfl⟩
                    have hB2' : B2 = if name ∈ Sk then Bk ++ [name] else Bk := by rw [if_neg hno]; exact hB2
                    rw [← hB2] at O3
                    generalize Ab = A2 at *
                    generalize cb = c2 at *
                    go_wp2_with fail
                    rw [← hB2]
                    have HB2 := Lib.hid hB2'
                    clear hB2 hB2'))
        | (have hyes : name ∈ Sk := hin
           rw [decide_eq_true hin] at hlook
           go_must (go_wp2_with (first
                      | ((with_reducible refine gate_builtin (b := .append) (xs := #[.tmp 22, .tmp 25]) rfl ?_); at_builtin; go_loud (refine wpList_append_own _ rfl (.tmp 22) (.tmp 25) 23 rfl w.heap.size 9 i (.string ByteArray.empty) 1 16 (by kernel_rfl) hi hz0 hz1 hz2 rfl (by decide) (.slice Ab Bk.length cb) Bk.length (Bk.map Value.string) rfl (World.ownsRow.alloc OA.out _) ⟨wr.heap.size + 1, 0, none⟩ 1 1 [.string name] rfl rfl (NW.out) (by simp [Value.oneCell']) (by unfold maxLen; have := hBk.out; omega) (by have := hBk.out; omega) (by have := LB.out; simp; omega) ?_); intro v' w2 hown2 hg2 _
                         have hown3 : OwnS w2 w.heap.size v' (Bk ++ [name]) := by unfold OwnS; rw [List.length_append, List.map_append]; exact hown2
                         obtain ⟨A2, c2, rfl⟩ := OwnS.slice hown3
                         have M2 := Lib.hid ((MA.out.alloc (.cells #[.string name] 9)).step (Only.of_grown hg2) (fun h => OwnS.ne OA.out MA.out h.symm))
                         have S2 := Lib.hid ((SA.out.alloc (.cells #[.string name] 9)).keep (Only.of_grown hg2) (fun h => by have := (World.ownsRow.lt HO.out _ h.symm).2; omega))
                         have B2' := Lib.hid (((Only.of_below BA.out (fun k => k = k ∧ w.heap.size ≤ k)).alloc (.cells #[.string name] 9) |>.step (Only.of_grown hg2) (fun q _ h => ⟨rfl, (World.ownsRow.lt HO.out _ h.symm).1⟩)).below (B := w.heap.size) (Nat.le_refl _) (fun q hq h => by have := h.2; omega))
                         have Z2 : Hid (wr.heap.size < w2.heap.size) := Lib.hid (by have := hg2.size; simp at this; omega)
                         obtain ⟨w3, hrun3, hm3, ho3⟩ := M2.out.update u69 hn5 name hns (.bool true)
                         rw [mset_cons] at hm3
                         have M3 := Lib.hid hm3
                         have O3 := Lib.hid (OwnS.only hown3 M2.out ho3)
                         have S3 := Lib.hid (S2.out.keep ho3 (Mp.ne M2.out S2.out))
                         have B3 := Lib.hid (((Only.of_below B2'.out (fun k => k = w.heap.size)).step ho3 (fun _ _ h => h)).below (B := w.heap.size) (Nat.le_refl _) (fun q hq h => by omega))
                         have Z3 : Hid (wr.heap.size < w3.heap.size) := Lib.hid (Nat.lt_of_lt_of_le Z2.out ho3.size)
                         have h19 : w2.cell? ⟨wr.heap.size, 0, none⟩ = some (.string name) := S2.out.cell_at 0 _ rfl
                         have h31 : (w3.alloc (.map #[] 0)).cell? ⟨wr.heap.size, 1, none⟩ = some (.slice Au us.length cu) := (S3.out.alloc (.map #[] 0)).cell_at 1 _ rfl
                         clear hm3 ho3 hown2 hg2 hown3)
                      | fail)
                    obtain ⟨B2, hB2⟩ : ∃ B2, B2 = Bk ++ [name] := ⟨_, rfl⟩
                    have hB2' : B2 = if name ∈ Sk then Bk ++ [name] else Bk := by rw [if_pos hyes]; exact hB2
                    have hl2 : Bk.length + 1 = B2.length := by rw [hB2]; simp
                    rw [← hB2, ← hl2] at O3
                    rw [hl2] at O3 ⊢
                    have HB2 := Lib.hid hB2'
                    clear hl2 hB2 hB2'))
      all_goals
        have huc : us.length ≤ 4194304 := by
          have h1 := HF.out.2.1
          have h2 := le_tot hmem
          dsimp only at h2
          omega
        have hui : (us.length : Int) ≤ 4194304 := by omega
        have MO := Lib.hid (mset_nil ▸ Mp.made w3)
        have M4 := Lib.hid (M3.out.alloc (.map #[] 0))
        have O4 := Lib.hid (OwnS.below O3.out ((Below.refl _ w3).alloc (Nat.le_refl _) (.map #[] 0)))
        have S4 := Lib.hid (S3.out.alloc (.map #[] 0))
        have B4 := Lib.hid (B3.out.alloc B3.out.size (.map #[] 0))
        have hmo : w.heap.size < w3.heap.size := by have := LB.out; have := Z3.out; omega
        have hsc : w.heap.size ≤ wr.heap.size := LB.out
        clear hlook hrun3 h31 MA OA SA BA NW HM HO HB M3 O3 S3 B3
        generalize w3.heap.size = mo at *
        generalize w3.alloc (.map #[] 0) = w4 at *
        generalize hsce : wr.heap.size = sc at *
        clear LA Z3
        obtain ⟨go, hgo⟩ : ∃ go, go = gk := ⟨_, rfl⟩
        subst hgo
        have hB2l : Hid (B2.length ≤ Bk.length + 1) := Lib.hid (by rw [HB2.out]; split <;> simp)
        go_loopg [5, 34] us.length (fun m bv iv wz => ∃ (j : Nat) (So Bo : List ByteArray) (Ao : Option Addr) (co : Nat), iv = .int .i64 j ∧ bv = .slice Ao Bo.length co ∧ Aside1 (j + m = us.length ∧ (us.take j).foldl (ust name) ([], B2) = (So, Bo)) ∧
          Aside1 (Mp wz w.heap.size (k + 1) (mset (name :: Sk))) ∧ Aside1 (Mp wz mo j (mset So)) ∧ Aside1 (OwnS wz w.heap.size (.slice Ao Bo.length co) Bo) ∧ Aside1 (Blk wz sc 41 [.string name, .slice Au us.length cu]) ∧ Aside1 (Below w.heap.size w wz))
      all_goals first
        | (case atStart => exact ⟨0, [], B2, A2, c2, rfl, rfl, ⟨by omega, by simp⟩, ⟨M4.out⟩, ⟨MO.out⟩, ⟨O4.out⟩, ⟨S4.out⟩, ⟨B4.out⟩⟩)
        | skip
      all_goals
        obtain ⟨j, So, Bo, Ao, co, rfl, rfl, ⟨hjm, hfo⟩, ⟨hms⟩, ⟨hmo2⟩, ⟨hoo⟩, ⟨hss⟩, ⟨hbb⟩⟩ := hrel
        have MS := Lib.hid hms
        have MO5 := Lib.hid hmo2
        have O5 := Lib.hid hoo
        have S5 := Lib.hid hss
        have B5 := Lib.hid hbb
        have FO := Lib.hid hfo
        have JM := Lib.hid hjm
        have hwj : Hid (wrap64 ((j : Int) + 1) = ((j + 1 : Nat) : Int)) := Lib.hid (by unfold wrap64; omega)
        have hwk : Hid (wrap64 ((k : Int) + 1) = ((k + 1 : Nat) : Int)) := Lib.hid (by unfold wrap64; omega)
        have hBo : Hid (Bo.length ≤ 8388608 + 2) := Lib.hid (by
          have h1 := (ust_len name (us.take j) ([], B2)).1
          rw [FO.out] at h1
          have h2 := hB2l.out
          have h3 := hBk.out
          have h4 : (us.take j).length ≤ us.length := by simp; omega
          dsimp only at h1
          omega)
        clear hms hmo2 hoo hss hbb hfo hjm
        by_cases hj : j < us.length
      all_goals first
        | (have hj2 : j < us.length := hj
           go_must (have hji : (j : Int) < (us.length : Int) := by omega
                    obtain ⟨adu, rfl, eu⟩ := name_at HCu.out rfl j hj
                    obtain ⟨u, hu⟩ : ∃ u, us[j] = u := ⟨_, rfl⟩
                    have hus : u.size ≤ maxLen := (HF.out.1 _ hmem).2 u (hu ▸ List.getElem_mem hj)
                    rw [hu] at eu
                    have x1 := (B5.out.cell (World.block_lt_of_cell? _ _ eu)).trans eu
                    have hstep : (us.take (j + 1)).foldl (ust name) ([], B2) = (u :: So, if u ∈ So then Bo ++ [name] else Bo) := by
                      rw [take_fold (ust name) ([], B2) us j hj, FO.out, hu]; rfl
                    have HST := Lib.hid hstep
                    have hlook := MO5.out.look u69 (zero4 _) u hus
                    rw [mset_get] at hlook
                    have hn6 : j < maxLen := by unfold maxLen; omega
                    have hnem : w.heap.size ≠ mo := by omega
                    clear eu hstep
                    by_cases hin2 : u ∈ So))
        | skip
      all_goals first
        | (have hno2 : ¬ (u ∈ So) := hin2
           rw [decide_eq_false hin2] at hlook
           go_must (obtain ⟨w7, hrun7, hm7, ho7⟩ := MO5.out.update u69 hn6 u hus (.bool true)
                    rw [mset_cons] at hm7
                    have M7 := Lib.hid (MS.out.step ho7 hnem)
                    have MO7 := Lib.hid hm7
                    have O7 := Lib.hid (OwnS.only O5.out MO5.out ho7)
                    have S7 := Lib.hid (S5.out.keep ho7 (Mp.ne MO5.out S5.out))
                    have B7 := Lib.hid (((Only.of_below B5.out (fun k => k = mo)).step ho7 (fun _ _ h => h)).below (B := w.heap.size) (Nat.le_refl _) (fun q hq h => by omega))
                    have HST7 := Lib.hid HST.out
                    rw [if_neg hno2] at HST7
                    clear hm7 ho7
                    go_wp2_with fail
                    go_roundg (gk - 1)
                    case measure => have := JM.out; omega
                    case rel => exact ⟨j + 1, u :: So, Bo, Ao, co, (by first | exact congrArg (Value.int .i64) hwj.out | exact congrArg (Value.int .i64) (by omega)), rfl, ⟨by have := JM.out; omega, HST7.out⟩, ⟨M7.out⟩, ⟨MO7.out⟩, ⟨O7.out⟩, ⟨S7.out⟩, ⟨B7.out⟩⟩))
        | skip
      all_goals first
        | (have hyes2 : u ∈ So := hin2
           rw [decide_eq_true hin2] at hlook
           go_must (have x0 := S5.out.cell_at 0 _ rfl
                    have HST7 := Lib.hid HST.out
                    rw [if_pos hyes2] at HST7
                    have NW : Hid (∀ j u, ([.string name] : List Value)[j]? = some u → (wr.alloc (.cells #[.string name] 9)).cell? ((⟨wr.heap.size, 0, none⟩ : Addr).add j) = some u) := by
                      refine Lib.hid fun j u hu => ?_
                      rw [add_flat, Nat.zero_add]
                      exact ((Blk.new wr 9 [.string name]).cell j).trans hu
                    have LB5 := Lib.hid B5.out.size
                    go_wp2_with (first
                      | ((with_reducible refine gate_builtin (b := .append) (xs := #[.tmp 41, .tmp 44]) rfl ?_); at_builtin; go_loud (refine wpList_append_own _ rfl (.tmp 41) (.tmp 44) 23 rfl w.heap.size 9 i (.string ByteArray.empty) 1 16 (by kernel_rfl) hi hz0 hz1 hz2 rfl (by decide) (.slice Ao Bo.length co) Bo.length (Bo.map Value.string) rfl (World.ownsRow.alloc O5.out _) ⟨wr.heap.size, 0, none⟩ 1 1 [.string name] rfl rfl (NW.out) (by simp [Value.oneCell']) (by unfold maxLen; have := hBo.out; omega) (by have := hBo.out; omega) (by have := LB5.out; simp; omega) ?_); intro v' w2 hown2 hg2 _
                         have hown3 : OwnS w2 w.heap.size v' (Bo ++ [name]) := by unfold OwnS; rw [List.length_append, List.map_append]; exact hown2
                         obtain ⟨A3, c3, rfl⟩ := OwnS.slice hown3
                         have M2 := Lib.hid ((MS.out.alloc (.cells #[.string name] 9)).step (Only.of_grown hg2) (fun h => OwnS.ne O5.out MS.out h.symm))
                         have MO2 := Lib.hid ((MO5.out.alloc (.cells #[.string name] 9)).step (Only.of_grown hg2) (fun h => OwnS.ne O5.out MO5.out h.symm))
                         have S2 := Lib.hid ((S5.out.alloc (.cells #[.string name] 9)).keep (Only.of_grown hg2) (fun h => by obtain ⟨c, fz, hcc⟩ := Lib.ownsRow_kind O5.out _ h.symm; have h6 := S5.out; unfold Blk at h6; rw [h6] at hcc; injection hcc with hcc; injection hcc with _ hcc _; exact absurd hcc (by decide)))
                         have B2' := Lib.hid (((Only.of_below B5.out (fun k => k = k ∧ w.heap.size ≤ k)).alloc (.cells #[.string name] 9) |>.step (Only.of_grown hg2) (fun q _ h => ⟨rfl, (World.ownsRow.lt O5.out _ h.symm).1⟩)).below (B := w.heap.size) (Nat.le_refl _) (fun q hq h => by have := h.2; omega))
                         obtain ⟨w7, hrun7, hm7, ho7⟩ := MO2.out.update u69 hn6 u hus (.bool true)
                         rw [mset_cons] at hm7
                         have M7 := Lib.hid (M2.out.step ho7 hnem)
                         have MO7 := Lib.hid hm7
                         have O7 := Lib.hid (OwnS.only hown3 MO2.out ho7)
                         have S7 := Lib.hid (S2.out.keep ho7 (Mp.ne MO2.out S2.out))
                         have B7 := Lib.hid (((Only.of_below B2'.out (fun k => k = mo)).step ho7 (fun _ _ h => h)).below (B := w.heap.size) (Nat.le_refl _) (fun q hq h => by omega))
                         clear hm7 ho7 hown2 hg2 hown3)
                      | fail)
                    go_roundg (gk - 1)
                    case measure => have := JM.out; omega
                    case rel => exact ⟨j + 1, u :: So, Bo ++ [name], A3, c3, (by first | exact congrArg (Value.int .i64) hwj.out | exact congrArg (Value.int .i64) (by omega)), (by simp), ⟨by have := JM.out; omega, HST7.out⟩, ⟨M7.out⟩, ⟨MO7.out⟩, ⟨O7.out⟩, ⟨S7.out⟩, ⟨B7.out⟩⟩))
        | skip
      all_goals first
        | (have hj3 : ¬ (j < us.length) := hj
           go_must (obtain rfl : j = us.length := by
                      have := JM.out
                      omega
                    have HT : Hid ((l.take (k + 1)).foldl tst ([], []) = (name :: Sk, Bo)) := Lib.hid (by
                      rw [take_fold tst ([], []) l k hk, HFO.out, hlk]
                      have h1 := FO.out
                      rw [List.take_length] at h1
                      unfold tst
                      dsimp only
                      rw [← HB2.out, h1])
                    go_wp2_with fail
                    go_roundg (go - 1)
                    case measure => have := HKM.out; omega
                    case rel => exact ⟨k + 1, name :: Sk, Bo, Ao, co, (by first | exact congrArg (Value.int .i64) hwk.out | exact congrArg (Value.int .i64) (by omega)), rfl, ⟨by have := HKM.out; omega, HT.out⟩, ⟨MS.out⟩, ⟨O5.out⟩, ⟨B5.out⟩⟩))
        | skip
    · obtain rfl : k = l.length := by
        have := HKM.out
        omega
      have hbk : Bk = bads l := by
        have h := HFO.out
        rw [List.take_length] at h
        unfold bads
        rw [h]
      by_cases hnil : Bk.length = 0
      · have hb0 : bads l = [] := by rw [← hbk]; exact List.eq_nil_of_length_eq_zero hnil
        clear hbk
        go_wp2_with fail
        all_goals first
          | contradiction
          | (go_ret2
             exact ⟨rfl, HB.out⟩)
      · have hb0 : bads l ≠ [] := by rw [← hbk]; intro h; exact hnil (by rw [h]; rfl)
        have hni : ¬ ((Bk.length : Int) = 0) := by omega
        have hnd : (((Bk.length : Int) == 0) = false) := beq_eq_false_iff_ne.2 hni
        have hlen := (tst_len (l.take l.length) ([], [])).1
        rw [HFO.out, List.take_length] at hlen
        have hBk : Hid (Bk.length ≤ 4194304) := Lib.hid (Nat.le_trans hlen (by have := HF.out.2.1; show 0 + tot l ≤ 4194304; omega))
        have HBK := Lib.hid hbk
        clear hlen hbk
        go_wp2_with (first
          | (go_at_call 20; go_loud (refine (MIN.out wr w.heap.size _ Bk HO.out (by rw [HBK.out]; exact hb0) (by have := hBk.out; omega)).mono ?_); rintro e w9 ⟨rfl, b9⟩; have B9 := Lib.hid (HB.out.trans (b9.mono HB.out.size)); clear b9; rw [HBK.out])
          | fail)
        all_goals first
          | contradiction
          | (go_ret2
             exact ⟨rfl, B9.out⟩)
end Go.Proofs.Ytlphpmdmlcphbaa.Or
