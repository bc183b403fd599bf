/- Copy, Crash and Live, said of 'IsDisk'. -/
import Derived.Test.YtgiidddmhnnnjaaDisk9
namespace Go.Proofs.Ytgiidddmhnnnjaa.Dk
open Go.RowKit Go.Proofs.Ytgiidddmhnnnjaa.Mem Go.Proofs.YtgiidddmhnnnjaaW.PrintWords
set_option linter.unusedVariables false
set_option linter.unusedSimpArgs false
variable {w : World} {base g n : Nat} {ok : Nat → Prop} {x : DV}
theorem dk_copy (h : IsDisk w base ok g x) (hg : Good x n) (hpl : (x.pend.length + 1) * 32 ≤ 140737488355328) : Calls Try.prog 18 #[.pointer (some ⟨g, 0, none⟩)] w fun e w' => ∃ g', e = .returned (.pointer (some ⟨g', 0, none⟩)) ∧ IsDisk w' w.heap.size (fun _ => True) g' x ∧ Below w.heap.size w w' := by
  obtain ⟨gk, ck, jk, gs, cs, js, A, N, C, o1, o2, k1, k2, s1, s2, hks, kl, km, sl, sm, hN, hb0, kb, sb, pb⟩ := h.open_ hg
  have := hg.n2
  exact copy_ok g gk ck gs cs n base _ x.kept x.seen x.pend x.life jk js A N C w (Lib.hid hb0) (Lib.hid kb) (Lib.hid sb) (Lib.hid (fun p hp => by have := (hg.pend p hp).2.1; omega)) (Lib.hid hpl) (Lib.hid pb) (by rw [hg.seen]; omega) (by rw [hg.kept]; omega)
/-- What a disk is behind a crash. -/
def DV.crash (x : DV) (keep : List Bool) (torn cut : Int) : DV := ⟨crashN keep torn cut x.kept x.pend x.pend.length, crashN keep torn cut x.kept x.pend x.pend.length, [], -1⟩
theorem crashN_good (hg : Good x n) (keep : List Bool) (torn cut : Int) (h0 : 0 ≤ cut) (h1 : cut ≤ 32) : ∀ j, (crashN keep torn cut x.kept x.pend j).length = n * 32 ∧ ∀ y ∈ crashN keep torn cut x.kept x.pend j, 0 ≤ y ∧ y < 256 := by
  intro j
  induction j with
  | zero => exact ⟨hg.kept, hg.bk⟩
  | succ j ih =>
    cases hp : x.pend[j]? with
    | none => unfold crashN; rw [hp]; exact ih
    | some p =>
      rw [crashN_succ hp]
      unfold crash1
      split
      · obtain ⟨⟨q1, q2⟩, q3, q4⟩ := hg.pend p (List.mem_of_getElem? hp)
        have hl : (p.2.take (cutAt torn cut j)).length ≤ 32 := by rw [List.length_take]; omega
        refine ⟨by rw [length_splice _ _ _ (by rw [ih.1]; omega)]; exact ih.1, fun y hy => ?_⟩
        rcases List.mem_append.1 hy with h | h
        · exact ih.2 y (List.mem_of_mem_take h)
        · rcases List.mem_append.1 h with h | h
          · exact q4 y (List.mem_of_mem_take h)
          · exact ih.2 y (List.mem_of_mem_drop h)
      · exact ih
theorem Good.crash (hg : Good x n) (keep : List Bool) (torn cut : Int) (h0 : 0 ≤ cut) (h1 : cut ≤ 32) : Good (x.crash keep torn cut) n :=
  ⟨hg.n1, hg.n2, (crashN_good hg keep torn cut h0 h1 _).1, (crashN_good hg keep torn cut h0 h1 _).1, (crashN_good hg keep torn cut h0 h1 _).2, (crashN_good hg keep torn cut h0 h1 _).2, fun p hp => absurd hp List.not_mem_nil, ⟨Int.le_refl _, show (-1 : Int) ≤ 9223372036854775807 by decide⟩⟩
theorem dk_crash (h : IsDisk w base ok g x) (hg : Good x n) (hpl : (x.pend.length + 1) * 32 ≤ 140737488355328) (KA : Option Addr) (KC : Nat) (keep : List Bool) (torn cut : Int) (h0 : 0 ≤ cut) (h1 : cut ≤ 32) (hK : Kd.bool.C w KA keep.length keep) (hKne : ∀ ad, KA = some ad → 0 < keep.length → ¬ ok ad.block) (hKC : keep.length ≤ KC) :
    Calls Try.prog 16 #[.pointer (some ⟨g, 0, none⟩), .slice KA keep.length KC, .int .i64 torn, .int .i64 cut] w fun e w' => e = .returned (.int .i64 0) ∧ IsDisk w' base ok g (x.crash keep torn cut) ∧ Only w w' ok := by
  obtain ⟨gk, ck, jk, gs, cs, js, A, N, C, o1, o2, k1, k2, s1, s2, hks, kl, km, sl, sm, hN, hb0, kb, sb, pb⟩ := h.open_ hg
  refine (crash_ok g gk ck gs cs n base ok x.kept x.seen x.pend x.life jk js A N C KA KC keep torn cut w (Lib.hid hb0) (Lib.hid kb) (Lib.hid sb) (Lib.hid pb) hg.seen hg.kept hg.n1 hg.n2 hks h0 h1 (Lib.hid hK) (Lib.hid (fun ad e hp he => hKne ad e hp (he ▸ k1))) hKC (Lib.hid (by omega)) (Lib.hid (fun p hp => ⟨(hg.pend p hp).1, (hg.pend p hp).2.1⟩)) (Lib.hid hpl)).mono ?_
  rintro e w' ⟨rfl, d, k, s, o⟩
  have hl := (crashN_good hg keep torn cut h0 h1 x.pend.length).1
  have hk := hg.kept
  have hs := hg.seen
  refine ⟨rfl, ?_, o.mono (fun q _ hq => by rcases hq with rfl | rfl | rfl; exact o1; exact k1; exact s1)⟩
  refine IsDisk.shut (x := x.crash keep torn cut) (gk := gk) (ck := ck) (gs := gs) (cs := cs) (jk := jk) (js := js) o1 o2 k1 k2 s1 s2 hks (by show (crashN keep torn cut x.kept x.pend x.pend.length).length + jk.length = ck; omega) km (by show (crashN keep torn cut x.kept x.pend x.pend.length).length + js.length = cs; omega) sm ?_ k s (Kd.R_nil _ _ _ _ _)
  show Blk w' g _ [.slice (some ⟨gk, 0, none⟩) (crashN keep torn cut x.kept x.pend x.pend.length).length ck, .slice (some ⟨gs, 0, none⟩) (crashN keep torn cut x.kept x.pend x.pend.length).length cs, _, _]
  rw [hl]
  rw [hk, hs] at d
  exact d
/-- What a disk is behind Live. -/
def DV.live (x : DV) (l : Int) : DV := ⟨x.kept, x.seen, x.pend, l⟩
theorem dk_live (h : IsDisk w base ok g x) (hg : Good x n) (l : Int) (hl : -1 ≤ l) : Calls Try.prog 24 #[.pointer (some ⟨g, 0, none⟩), .int .i64 l] w fun e w' => e = .returned (.int .i64 0) ∧ IsDisk w' base ok g (x.live l) ∧ Only w w' ok := by
  obtain ⟨gk, ck, jk, gs, cs, js, A, N, C, o1, o2, k1, k2, s1, s2, hks, kl, km, sl, sm, hN, hb0, kb, sb, pb⟩ := h.open_ hg
  refine (live_cells g _ l w (hb0.cell_at 3 _ rfl) (hb0.frozen 3)).mono ?_
  rintro e w' ⟨rfl, hw⟩
  rw [if_neg (by omega)] at hw ⊢
  subst hw
  have hgk : g ≠ gk := Blk.ne_ hb0 kb (by decide)
  have hgs : g ≠ gs := Blk.ne_ hb0 sb (by decide)
  refine ⟨rfl, ?_, (Only.refl w ok).setCell (p := ⟨g, 3, none⟩) (fun _ => o1) _⟩
  exact IsDisk.shut (x := x.live l) o1 o2 k1 k2 s1 s2 hks kl km sl sm (hb0.set_ 3 (.int .i64 l)) (kb.far (p := ⟨g, 3, none⟩) (Ne.symm hgk) _) (sb.far (p := ⟨g, 3, none⟩) (Ne.symm hgs) _) (Kd.R_set pb (show w.heap[g]? = _ from hb0) (by decide) 3 _)
end Go.Proofs.Ytgiidddmhnnnjaa.Dk
