/- Seat E: order.twice: what stands twice. -/
import Derived.Test.YtlphpmdmlcphbaaOr1
import Derived.Deep.LoopGhost
namespace Go.Proofs.Ytlphpmdmlcphbaa.Or
open Go.RowKit Go.Proofs.Ytlphpmdmlcphbaa.Mem Go.Proofs.YtlphpmdmlcphbaaW.PrintWords Go.Maps Go.Proofs.Ytlphpmdmlcphbaa.Om
set_option linter.unusedVariables false
set_option linter.unusedSimpArgs false
set_option maxRecDepth 100000
set_option maxHeartbeats 4000000
noncomputable instance memDec (x : ByteArray) (S : List ByteArray) : Decidable (x ∈ S) := Classical.propDecidable _
/-- A set of names, as a map. -/
noncomputable def mset (S : List ByteArray) : ByteArray → Option Value := fun x => if x ∈ S then some (.bool true) else none
theorem mset_nil : mset [] = fun _ => none := by funext x; simp [mset]
theorem mset_cons (s : ByteArray) (S : List ByteArray) : (fun x => if x = s then some (.bool true) else mset S x) = mset (s :: S) := by
  funext x
  unfold mset
  by_cases h : x = s <;> simp [h]
theorem mset_get (S : List ByteArray) (s : ByteArray) : (mset S s).getD (.bool false) = .bool (decide (s ∈ S)) := by
  unfold mset
  by_cases h : s ∈ S <;> simp [h]
noncomputable def ust (name : ByteArray) (st : List ByteArray × List ByteArray) (u : ByteArray) : List ByteArray × List ByteArray := (u :: st.1, if u ∈ st.1 then st.2 ++ [name] else st.2)
noncomputable def tst (st : List ByteArray × List ByteArray) (v : Vo) : List ByteArray × List ByteArray := (v.1 :: st.1, (v.2.foldl (ust v.1) ([], if v.1 ∈ st.1 then st.2 ++ [v.1] else st.2)).2)
/-- The names of those that stand twice, or use one twice. -/
noncomputable def bads (l : List Vo) : List ByteArray := (l.foldl tst ([], [])).2
def tot (l : List Vo) : Nat := (l.map (fun v => v.2.length + 1)).sum
theorem ust_len (name : ByteArray) : ∀ (us : List ByteArray) (st : List ByteArray × List ByteArray), (us.foldl (ust name) st).2.length ≤ st.2.length + us.length ∧ (us.foldl (ust name) st).1.length = st.1.length + us.length
  | [], st => ⟨by simp, by simp⟩
  | u :: r, st => by
    have h := ust_len name r (ust name st u)
    have h1 : (ust name st u).2.length ≤ st.2.length + 1 := by unfold ust; dsimp only; split <;> simp
    have h2 : (ust name st u).1.length = st.1.length + 1 := by simp [ust]
    simp only [List.foldl_cons, List.length_cons]
    omega
theorem tst_len : ∀ (l : List Vo) (st : List ByteArray × List ByteArray), (l.foldl tst st).2.length ≤ st.2.length + tot l ∧ (l.foldl tst st).1.length = st.1.length + l.length
  | [], st => ⟨by simp [tot], by simp⟩
  | v :: r, st => by
    have h := tst_len r (tst st v)
    have h1 : (tst st v).2.length ≤ st.2.length + (v.2.length + 1) := by
      have := (ust_len v.1 v.2 ([], if v.1 ∈ st.1 then st.2 ++ [v.1] else st.2)).1
      have h3 : (if v.1 ∈ st.1 then st.2 ++ [v.1] else st.2).length ≤ st.2.length + 1 := by split <;> simp
      show (v.2.foldl (ust v.1) ([], if v.1 ∈ st.1 then st.2 ++ [v.1] else st.2)).2.length ≤ _
      dsimp only at this
      omega
    have h2 : (tst st v).1.length = st.1.length + 1 := by simp [tst]
    have h3 : tot (v :: r) = v.2.length + 1 + tot r := by simp [tot]
    simp only [List.foldl_cons, List.length_cons]
    omega
theorem tot_take (l : List Vo) (k : Nat) : tot (l.take k) ≤ tot l := by
  unfold tot
  rw [List.map_take]
  generalize l.map (fun v => v.2.length + 1) = xs
  induction xs generalizing k with
  | nil => simp
  | cons x r ih => cases k with
    | zero => simp
    | succ k => have := ih k; simp; omega
theorem le_tot {v : Vo} : ∀ {l : List Vo}, v ∈ l → v.2.length + 1 ≤ tot l
  | x :: r, h => by
    have h3 : tot (x :: r) = x.2.length + 1 + tot r := by simp [tot]
    rcases List.mem_cons.1 h with rfl | h
    · omega
    · have := le_tot h; omega
theorem take_fold {α β : Type} (f : β → α → β) (b : β) (l : List α) (k : Nat) (hk : k < l.length) : (l.take (k + 1)).foldl f b = f ((l.take k).foldl f b) l[k] := by
  rw [List.take_succ_eq_append_getElem hk, List.foldl_append]; rfl
/-- A row of names that the call owns. -/
abbrev OwnS (w : World) (base : Nat) (v : Value) (l : List ByteArray) : Prop := w.ownsRow base 9 1 v l.length (l.map Value.string)
theorem OwnS.slice {w : World} {base : Nat} {v : Value} {l : List ByteArray} (h : OwnS w base v l) : ∃ A c, v = .slice A l.length c := by
  rcases h.2 with ⟨rfl, h0⟩ | ⟨g, cap, cur, rfl, _⟩
  · exact ⟨none, 0, by rw [h0]⟩
  · exact ⟨_, _, rfl⟩
theorem OwnS.below {w w' : World} {base : Nat} {v : Value} {l : List ByteArray} (h : OwnS w base v l) (hb : Below w.heap.size w w') : OwnS w' base v l :=
  World.ownsRow.kept h (row := none) ⟨hb.os, hb.tape, hb.output, hb.size, fun k hk _ => hb.block k hk⟩ (by cases v <;> simp [Value.ownBlock] <;> split <;> simp)
/-- A map's block is no row's. -/
theorem OwnS.ne {w : World} {base b n : Nat} {v : Value} {l : List ByteArray} {m : ByteArray → Option Value} (h : OwnS w base v l) (hm : Mp w b n m) : v.ownBlock ≠ some b := by
  intro e
  obtain ⟨c, fz, hc⟩ := Go.Lib.ownsRow_kind h b e
  obtain ⟨D, ⟨es, cl, hh, r⟩, k⟩ := hm
  rw [hh] at hc
  cases hc
theorem OwnS.only {w w' : World} {base b n : Nat} {v : Value} {l : List ByteArray} {m : ByteArray → Option Value} (h : OwnS w base v l) (hm : Mp w b n m) (ho : Only w w' (fun k => k = b)) : OwnS w' base v l :=
  World.ownsRow.kept h (row := some b) ⟨ho.os, ho.tape, ho.output, ho.size, fun k hk hn => ho.block k hk (fun e => hn (by rw [e]))⟩ (.inr (OwnS.ne h hm))
theorem u69 : Try.prog.underlying 69 = some (.map 9 4) := by kernel_rfl
theorem zero4 (w : World) : (zeroValue 4).run Try.prog w = .ok (.bool false) w := by
  have h : (Try.prog.info? 4).map (fun i => i.zero) = some (some (.bool false)) := by kernel_rfl
  cases hi : Try.prog.info? 4 with
  | none => rw [hi] at h; cases h
  | some i => rw [hi] at h; injection h with h; simp [zeroValue, typeInfo, hi, h]
theorem info9m : (Try.prog.info? 9).map (fun i => (i.zero, i.size, i.bytes)) = some (some (.string ByteArray.empty), 1, 16) := by kernel_rfl
theorem info9 : ∃ i, Try.prog.info? 9 = some i ∧ i.zero = some (.string ByteArray.empty) ∧ i.size = 1 ∧ i.bytes = 16 := by
  have h := info9m
  cases hi : Try.prog.info? 9 with
  | none => rw [hi] at h; cases h
  | some i => rw [hi] at h; injection h with h; injection h with h1 h; injection h with h2 h3; exact ⟨i, rfl, h1, h2, h3⟩
end Go.Proofs.Ytlphpmdmlcphbaa.Or
