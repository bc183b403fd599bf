/- Words under the disk's and the pages' laws. -/
import Derived.Test.YtgiidddmhnnnjaaDisk7
import Derived.Test.YtgiidddmhnnnjaaOpenKd
namespace Go.Proofs.Ytgiidddmhnnnjaa.Dk
open Go.RowKit Go.Proofs.Ytgiidddmhnnnjaa.Mem Go.Proofs.YtgiidddmhnnnjaaW.PrintWords
set_option linter.unusedVariables false
set_option linter.unusedSimpArgs false
theorem splice_in {α : Type} (l c : List α) (o t : Nat) (h : o + c.length ≤ l.length) (ht : t < c.length) : (splice l o c)[o + t]? = c[t]? := by
  unfold splice
  rw [List.getElem?_append_right (by simp; omega), List.length_take, Nat.min_eq_left (by omega), Nat.add_sub_cancel_left, List.getElem?_append_left ht]
theorem splice_out {α : Type} (l c : List α) (o t : Nat) (h : o + c.length ≤ l.length) (ht : t < o ∨ o + c.length ≤ t) : (splice l o c)[t]? = l[t]? := by
  unfold splice
  rcases ht with ht | ht
  · rw [List.getElem?_append_left (by simp; omega), List.getElem?_take, if_pos ht]
  · rw [List.getElem?_append_right (by simp; omega), List.length_take, Nat.min_eq_left (by omega), List.getElem?_append_right (by omega), List.getElem?_drop]
    congr 1
    omega
def Wf (k : IntKind) : Int → Prop := fun a => (Lit.int k a).wf = true
theorem wf_u8 {a : Int} (h : Wf .u8 a) : 0 ≤ a ∧ a < 256 := by
  have h : (Lit.int .u8 a).wf = true := h
  have h1 : IntKind.u8.min = 0 := by decide
  have h2 : IntKind.u8.max = 255 := by decide
  simp [Lit.wf, h1, h2] at h
  omega
theorem bools_le {l : List Bool} (hb : l.length * Try.prog.bytesOf 4 ≤ reachBytes) : l.length ≤ 140737488351232 := by
  have e3 : Try.prog.bytesOf 4 = 1 := by kernel_rfl
  have e4 : reachBytes = 140737488351232 := by decide
  rw [e3, e4] at hb
  omega
theorem bytes_le {l : List Int} (hb : l.length * Try.prog.bytesOf 5 ≤ reachBytes) : l.length ≤ 140737488351232 := by
  have e3 : Try.prog.bytesOf 5 = 1 := by kernel_rfl
  have e4 : reachBytes = 140737488351232 := by decide
  rw [e3, e4] at hb
  omega
theorem dk_writeS' {w : World} {base g n : Nat} {ok : Nat → Prop} {x : DV} (h : IsDisk w base ok g x) (hg : Good x n) (hbase : base ≤ w.heap.size) (hpl : (x.pend.length + 1) * 32 ≤ 140737488355328) (hlife : x.life ≠ 0) (s : Int) (h0 : 0 ≤ s) (h1 : s < n) (ab ao c : Nat) (b : List Int) (hb : (Kd.int .u8).C w (some ⟨ab, ao, none⟩) 32 b) (hab : ab < w.heap.size) (hne : ¬ ok ab) :
    Calls Try.prog 14 #[.pointer (some ⟨g, 0, none⟩), .int .i64 s, .slice (some ⟨ab, ao, none⟩) 32 c] w fun e w' => e = .returned (.int .i64 0) ∧ IsDisk w' base (fun k => ok k ∨ w.heap.size ≤ k) g (x.write s.toNat b) ∧ Only w w' ok := by
  obtain ⟨m, rfl⟩ := Int.eq_ofNat_of_zero_le h0
  rw [Int.toNat_natCast]
  exact dk_write h hg hg.n2 hbase hpl hlife m (by omega) ab ao c b hb hab hne
theorem C_pre' {w : World} {g o n : Nat} {t : TypeId} {k : IntKind} {xs : List Int} {junk : List Value} (hb : Blk w g t (icells k xs ++ junk)) (h : o + n ≤ xs.length) (hx : xs.length ≤ 9223372036854775807) : (Kd.int k).C w (some ⟨g, o, none⟩) n ((xs.drop o).take n) := by
  have hl : ((xs.drop o).take n).length = n := by simp; omega
  refine ⟨hl, by omega, fun _ => ⟨_, rfl, fun j p hj => ⟨[.int k p], rfl, rfl, fun i u hu => ?_⟩⟩⟩
  match i, hu with
  | 0, hu =>
    simp at hu
    subst hu
    rw [show (Kd.int k).sz = 1 from rfl, show j * 1 + 0 = j by omega]
    exact hb.at_ o n h j _ (by simp only [icells, List.getElem?_map, hj, Option.map_some])
end Go.Proofs.Ytgiidddmhnnnjaa.Dk
