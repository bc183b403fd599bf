/- Seat E: a map whose keys are strings, made by the program: a function from names to values. -/
import Derived.Test.YtlphpmdmlcphbaaMem
import Derived.Test.YtlphpmdmlcphbaaProg
import Derived.Maps.Own
import Derived.Maps.OwnOps
import Derived.Maps.OwnSet
import Derived.Maps.OwnIn
import Derived.StringKeys
namespace Go.Proofs.Ytlphpmdmlcphbaa.Om
open Go.RowKit Go.Proofs.Ytlphpmdmlcphbaa.Mem Go.Maps Go.ChangeMaps
set_option linter.unusedVariables false
set_option linter.unusedSimpArgs false
set_option maxRecDepth 10000
theorem u9 : Try.prog.underlying 9 = some .string := by kernel_rfl
theorem law9 : Keyed Try.prog 9 := string_keyed u9
/-- Whatever lies in the map reads as itself. -/
def vR (v : Value) : Option (DataW Value × List MemPlace) := some (.held v, [])
theorem vR_inv {v : Value} {d : DataW Value} {ps : List MemPlace} (h : vR v = some (d, ps)) : d = .held v := by
  unfold vR at h
  injection h with h
  injection h with h _
  exact h.symm
def key (s : ByteArray) : Lit := .string s.data.toList
theorem key_inj {s t : ByteArray} (h : key s = key t) : s = t := by
  unfold key at h
  injection h with h
  cases s; cases t
  simp only [ByteArray.mk.injEq]
  exact Array.toList_inj.1 h
theorem key_lit (s : ByteArray) : WideAt.IsKeyLit (key s) := trivial
theorem keyOf_ (s : ByteArray) (hs : s.size ≤ maxLen) : keyOf Try.prog 9 (.string s) = some (key s) := WideMaps.keyOf_string_mk u9 hs
/-- Block b is a map of at most n entries: m. -/
def Mp (w : World) (b n : Nat) (m : ByteArray → Option Value) : Prop :=
  ∃ D : DataW Value, w.ownsMap Try.prog 9 vR b n D ∧ ∀ s, Maps.has D (key s) = (m s).isSome ∧ ∀ z, D.atKey (key s) (.held z) = .held ((m s).getD z)
section
variable {w w' : World} {b n : Nat} {m : ByteArray → Option Value}
theorem Mp.lt (h : Mp w b n m) : b < w.heap.size := by obtain ⟨D, h, _⟩ := h; exact h.lt
theorem Mp.mono (h : Mp w b n m) {n' : Nat} (hn : n ≤ n') : Mp w b n' m := by obtain ⟨D, h, k⟩ := h; exact ⟨D, h.mono hn, k⟩
theorem Mp.made (w : World) : Mp (w.alloc (.map #[] 0)) w.heap.size 0 (fun _ => none) := ⟨_, World.ownsMap_made w _ _ _, fun s => ⟨rfl, fun z => rfl⟩⟩
theorem Mp.step {S : Nat → Prop} (h : Mp w b n m) (ho : Only w w' S) (hb : ¬ S b) : Mp w' b n m := by
  obtain ⟨D, ⟨es, cl, hh, r⟩, k⟩ := h
  exact ⟨D, ⟨es, cl, (ho.block b (Array.getElem?_eq_some_iff.1 hh).1 hb).trans hh, r⟩, k⟩
theorem Mp.below {B : Nat} (h : Mp w b n m) (hb : Below B w w') (hB : b < B) : Mp w' b n m := by
  obtain ⟨D, ⟨es, cl, hh, r⟩, k⟩ := h
  exact ⟨D, ⟨es, cl, (hb.block b hB).trans hh, r⟩, k⟩
theorem Mp.alloc (h : Mp w b n m) (o : Obj) : Mp (w.alloc o) b n m := h.step ((Only.refl w (fun _ => False)).alloc o) (fun h => h)
theorem Mp.drewN (h : Mp w b n m) (k : Nat) : Mp (w.drewN k) b n m := h
theorem Mp.drew (h : Mp w b n m) : Mp w.drew b n m := h
theorem Mp.setCell (h : Mp w b n m) {p : Addr} (hp : p.block ≠ b) (u : Value) : Mp (w.setCell p u) b n m := h.step ((Only.refl w (fun k => k = p.block)).setCell (fun _ => rfl) u) (fun e => hp e.symm)
/-- A map is no row of cells. -/
theorem Mp.ne {g : Nat} {t : TypeId} {cs : List Value} (h : Mp w b n m) (hg : Blk w g t cs) : g ≠ b := by
  rintro rfl
  obtain ⟨D, ⟨es, cl, hh, r⟩, k⟩ := h
  unfold Blk at hg
  rw [hh] at hg
  cases hg
theorem Mp.ne_map {b' n' : Nat} {m' : ByteArray → Option Value} (h : Mp w b n m) (h' : Mp w b' n' m') {s : ByteArray} (hs : m s ≠ m' s) : b ≠ b' := by
  rintro rfl
  obtain ⟨D, ⟨es, cl, hh, F, _, hD⟩, k⟩ := h
  obtain ⟨D', ⟨es', cl', hh', F', _, hD'⟩, k'⟩ := h'
  rw [hh] at hh'
  injection hh' with e
  injection e with e1 e2
  subst e1
  obtain rfl : D = D' := by rw [hD, hD']
  have h1 := (k s).1
  have h2 := (k' s).1
  rcases hm : m s with _ | v <;> rcases hm' : m' s with _ | v'
  · exact hs (hm.trans hm'.symm)
  · rw [h1, hm, hm'] at h2; cases h2
  · rw [h1, hm, hm'] at h2; cases h2
  · have h3 := (k s).2 .nilFunc
    have h4 := (k' s).2 .nilFunc
    rw [h3, hm, hm'] at h4
    injection h4 with h4
    exact hs (by rw [hm, hm']; exact congrArg some h4)
variable {t e : TypeId} (ht : Try.prog.underlying t = some (.map 9 e))
theorem Mp.look (h : Mp w b n m) (ht : Try.prog.underlying t = some (.map 9 e)) {z : Value} (hz : (zeroValue e).run Try.prog w = .ok z w) (s : ByteArray) (hs : s.size ≤ maxLen) :
    (Instr.lookup t (.map (some b)) (.string s) false).run Try.prog w = .ok ((m s).getD z) w := by
  obtain ⟨D, ho, hk⟩ := h
  obtain ⟨v, ps, hrun, hv⟩ := ho.lookup law9 ht hz (show vR z = some (.held z, []) from rfl) (keyOf_ s hs)
  have h1 := ((hk s).2 z).symm.trans (vR_inv hv)
  have h2 : v = (m s).getD z := by injection h1 with h1; exact h1.symm
  subst h2
  exact hrun
theorem Mp.look_ok (h : Mp w b n m) (ht : Try.prog.underlying t = some (.map 9 e)) {z : Value} (hz : (zeroValue e).run Try.prog w = .ok z w) (s : ByteArray) (hs : s.size ≤ maxLen) :
    (Instr.lookup t (.map (some b)) (.string s) true).run Try.prog w = .ok (.tuple #[(m s).getD z, .bool (m s).isSome]) w := by
  obtain ⟨D, ho, hk⟩ := h
  obtain ⟨v, ps, hrun, hv⟩ := ho.look_ok law9 ht hz (show vR z = some (.held z, []) from rfl) (keyOf_ s hs)
  have h1 := ((hk s).2 z).symm.trans (vR_inv hv)
  have h2 : v = (m s).getD z := by injection h1 with h1; exact h1.symm
  subst h2
  rw [(hk s).1] at hrun
  exact hrun
theorem Mp.update (h : Mp w b n m) (ht : Try.prog.underlying t = some (.map 9 e)) (hn : n < maxLen) (s : ByteArray) (hs : s.size ≤ maxLen) (v : Value) :
    ∃ w', (Instr.mapUpdate t (.map (some b)) (.string s) v).run Try.prog w = .ok () w' ∧ Mp w' b (n + 1) (fun x => if x = s then some v else m x) ∧ Only w w' (fun k => k = b) := by
  obtain ⟨D, ho, hk⟩ := h
  obtain ⟨w', hrun, ho', hg⟩ := ho.update law9 ht hn (keyOf_ s hs) (show vR v = some (.held v, []) from rfl)
  refine ⟨w', hrun, ⟨_, ho', fun x => ?_⟩, (Only.of_grown hg).mono (fun k _ h => by injection h)⟩
  show Maps.has (D.put (key s) (.held v)) (key x) = (if x = s then some v else m x).isSome ∧ ∀ z, (D.put (key s) (.held v)).atKey (key x) (.held z) = .held ((if x = s then some v else m x).getD z)
  by_cases hx : x = s
  · subst hx
    rw [if_pos rfl]
    exact ⟨has_put_same ho.isMap (key_lit x) _, fun z => atKey_put_same ho.isMap (key_lit x) _ _⟩
  · rw [if_neg hx]
    have hne : key x ≠ key s := fun h => hx (key_inj h)
    exact ⟨(has_put_other hne _).trans (hk x).1, fun z => (atKey_put_other hne _ _).trans ((hk x).2 z)⟩
end
end Go.Proofs.Ytlphpmdmlcphbaa.Om
