/- The plain side of DiskKeeps. -/
import Derived.Test.YtgiidddmhnnnjaaSame
namespace Go.Proofs.Ytgiidddmhnnnjaa.Dk
open Go.RowKit Go.Proofs.Ytgiidddmhnnnjaa.Mem Go.Proofs.YtgiidddmhnnnjaaW.PrintWords
set_option linter.unusedVariables false
set_option linter.unusedSimpArgs false
/-- A guarded operation that runs, by a law for a step. -/
theorem wpList_wanted {P : Program} {ops : Array Oper} {rest : List Oper} {o : Oper} {a : Act} {Q : Exit → Act → World → Prop} {w : World} {E : Prop} (hw : Region.wanted o (yielded ops a.tmps) = true)
    (h : if Region.wanted o (yielded ops a.tmps) = true then Oper.wp P o a w (wpList P ops Q rest) Q else E) : wpList P ops Q (o :: rest) a w := by
  rw [if_pos hw] at h
  show (if Region.wanted o (yielded ops a.tmps) then _ else _)
  rw [if_pos hw]
  exact .inl h
theorem crashN_append (keep : List Bool) (torn cut : Int) (kept : List Int) (pend : List (Int × List Int)) (p : Int × List Int) : ∀ j, j ≤ pend.length → crashN keep torn cut kept (pend ++ [p]) j = crashN keep torn cut kept pend j := by
  intro j
  induction j with
  | zero => intro _; rfl
  | succ j ih =>
    intro hj
    have h1 : pend[j]? = some pend[j] := List.getElem?_eq_getElem (by omega)
    rw [crashN_succ (p := pend[j]) (by rw [List.getElem?_append_left (by omega)]; exact h1), crashN_succ h1, ih (by omega)]
/-- A crash that keeps all leaves what was seen. -/
def Whole (x : DV) : Prop := ∀ keep : List Bool, (∀ t, t < x.pend.length → keep.getD t false = true) → crashN keep (-1) 0 x.kept x.pend x.pend.length = x.seen
theorem whole_nil {x : DV} (hp : x.pend = []) (hk : x.kept = x.seen) : Whole x := by
  intro keep _
  rw [hp]
  exact hk
theorem whole_write {x : DV} {n m : Nat} {b : List Int} (hg : Good x n) (h : Whole x) (hb : b.length = 32) : Whole (x.write m b) := by
  intro keep hk
  have hk : ∀ t, t < (x.pend ++ [((m : Int), b)]).length → keep.getD t false = true := hk
  show crashN keep (-1) 0 x.kept (x.pend ++ [((m : Int), b)]) (x.pend ++ [((m : Int), b)]).length = splice x.seen (m * 32) b
  rw [List.length_append, List.length_singleton, crashN_succ (p := ((m : Int), b)) (by simp), crashN_append _ _ _ _ _ _ _ (Nat.le_refl _), h keep (fun t ht => hk t (by simp; omega))]
  unfold crash1
  rw [if_pos (hk _ (by simp))]
  have : cutAt (-1) 0 x.pend.length = 32 := by unfold cutAt; rw [if_neg (by omega)]
  rw [this, List.take_of_length_le (by show b.length ≤ 32; omega), Int.toNat_natCast]
theorem whole_puts {x0 : DV} {n : Nat} (hg : Good x0 n) (hl : x0.life = -1) (hp : x0.pend = []) (hk : x0.kept = x0.seen) (more : List OpV) (hs : ∀ o ∈ more, OpOk o) : ∀ j, Whole (putsN x0 n more j) := by
  intro j
  induction j with
  | zero => exact whole_nil hp hk
  | succ j ih =>
    cases he : more[j]? with
    | none =>
      have e1 : putsN x0 n more (j + 1) = putsN x0 n more j := by rw [putsN, he]
      rw [e1]; exact ih
    | some o =>
      by_cases hw : isW o
      · rw [putsN_w he hw]
        unfold DV.put
        split
        · rename_i hc
          exact whole_write (tear_ok hg hl hp hk more hs j).good ih hc.1
        · exact ih
      · rw [putsN_n he hw]; exact ih
theorem crash_nil_keep (torn cut : Int) (kept : List Int) (pend : List (Int × List Int)) : ∀ j, crashN [] torn cut kept pend j = kept := by
  intro j
  induction j with
  | zero => rfl
  | succ j ih =>
    cases hp : pend[j]? with
    | none => unfold crashN; rw [hp]; exact ih
    | some p => rw [crashN_succ hp, ih]; simp [crash1]
def bcells (l : List Bool) : List Value := l.map Value.bool
theorem fill_get {k m : Nat} (h : k < m) : (bcells (List.replicate k true ++ List.replicate (m - k) false))[k]? = some (.bool false) := by
  obtain ⟨d, rfl⟩ : ∃ d, m = k + 1 + d := ⟨m - (k + 1), by omega⟩
  rw [show k + 1 + d - k = d + 1 by omega]
  simp [bcells, List.replicate_succ]
theorem fill_set {k m : Nat} (h : k < m) : (bcells (List.replicate k true ++ List.replicate (m - k) false)).set k (.bool true) = bcells (List.replicate (k + 1) true ++ List.replicate (m - (k + 1)) false) := by
  obtain ⟨d, rfl⟩ : ∃ d, m = k + 1 + d := ⟨m - (k + 1), by omega⟩
  rw [show k + 1 + d - k = d + 1 by omega, show k + 1 + d - (k + 1) = d by omega]
  have e1 : List.replicate (d + 1) false = false :: List.replicate d false := rfl
  have e2 : List.replicate (k + 1) true = List.replicate k true ++ [true] := List.replicate_succ'
  rw [e1, e2]
  unfold bcells
  simp only [List.map_append, List.map_cons, List.map_nil]
  rw [List.set_append_right _ _ (by simp)]
  simp
theorem made_false (n : Nat) : madeCells #[.bool false] n = (bcells (List.replicate n false)).toArray := by
  apply Array.ext
  · simp [madeCells, bcells]
  · intro i h1 h2
    simp [madeCells, bcells]
    rw [Nat.mod_one]; rfl
theorem info_bool : (Try.prog.info? 4).map (fun i => (i.zero, i.size, i.bytes)) = some (some (.bool false), 1, 1) := by kernel_rfl
theorem make_bools (n : Nat) (hn : n ≤ 140737488355328) (w : World) : (Instr.makeSlice 23 (.int .i64 (n : Int)) (.int .i64 (n : Int))).run Try.prog w = .ok (.slice (some ⟨w.heap.size, 0, none⟩) n n) (w.alloc (.cells (bcells (List.replicate n false)).toArray 4)) := by
  have := run_make_row' (P := Try.prog) 23 4 (.bool false) 1 Try.underlying23 info_bool rfl .i64 .i64 n (by omega) (by omega) w
  rw [made_false] at this
  exact this
theorem C_bools {w : World} {g : Nat} {l : List Bool} {n : Nat} (hb : Blk w g 4 (bcells l)) (hn : n = l.length) (hl : l.length ≤ 9223372036854775807) : Kd.bool.C w (some ⟨g, 0, none⟩) n l := by
  subst hn
  refine ⟨rfl, hl, fun _ => ⟨_, rfl, fun j p hj => ⟨[.bool p], rfl, rfl, fun i u hu => ?_⟩⟩⟩
  match i, hu with
  | 0, hu =>
    simp at hu
    subst hu
    rw [add_flat, show (Kd.bool).sz = 1 from rfl, show 0 + (j * 1 + 0) = j by omega]
    exact hb.cell_at _ _ (by simp [bcells, hj])
end Go.Proofs.Ytgiidddmhnnnjaa.Dk
