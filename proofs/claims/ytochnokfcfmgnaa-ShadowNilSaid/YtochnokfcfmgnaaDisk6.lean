/- The disk's contracts, said of 'IsDisk'. -/
import Derived.Test.YtochnokfcfmgnaaDisk4
namespace Go.Proofs.Ytochnokfcfmgnaa.Dk
open Go.RowKit Go.Proofs.Ytochnokfcfmgnaa.Mem Go.Proofs.YtochnokfcfmgnaaW.PrintWords
set_option linter.unusedVariables false
set_option linter.unusedSimpArgs false
variable {w : World} {base g n : Nat} {ok : Nat → Prop} {x : DV}
/-- A disk, opened. -/
theorem IsDisk.open_ (h : IsDisk w base ok g x) (hg : Good x n) : ∃ gk ck jk gs cs js A N C, ok g ∧ base ≤ g ∧ ok gk ∧ base ≤ gk ∧ ok gs ∧ base ≤ gs ∧ gk ≠ gs ∧ x.kept.length + jk.length = ck ∧ ck ≤ maxLen ∧ x.seen.length + js.length = cs ∧ cs ≤ maxLen ∧ N = x.pend.length ∧
    Blk w g 93 [.slice (some ⟨gk, 0, none⟩) x.kept.length ck, .slice (some ⟨gs, 0, none⟩) x.seen.length cs, .slice A N C, .int .i64 x.life] ∧ Blk w gk 5 (icells .u8 x.kept ++ jk) ∧ Blk w gs 5 (icells .u8 x.seen ++ js) ∧
    Wr.R 98 w base (fun k => (ok k ∧ k ≠ gk) ∧ k ≠ gs) (.slice A N C) x.pend := by
  obtain ⟨vk, vs, vp, h1, h2, hb, h3, h4, h5⟩ := h
  have := hg.n1
  obtain ⟨gk, ck, jk, rfl, k1, k2, k3, k4, k5, k6⟩ := R_open h3 (by rw [hg.kept]; omega)
  obtain ⟨gs, cs, js, rfl, s1, s2, s3, s4, s5, s6⟩ := R_open h4 (by rw [hg.seen]; omega)
  obtain ⟨A, C, rfl⟩ := Kd.R_slice h5
  have s22 : gs ≠ gk := by have := s2.2; simpa [Value.ownBlock] using this
  exact ⟨gk, ck, jk, gs, cs, js, A, _, C, h1, h2, k2, k1, s2.1, s1, Ne.symm s22, k5, k4, s5, s4, rfl, hb, k6, s6, Kd.R_mono h5 (fun k hk => ⟨⟨hk.1, by have := hk.2.1; simpa [Value.ownBlock] using this⟩, by have := hk.2.2; simpa [Value.ownBlock] using this⟩)⟩
/-- And shut again. -/
theorem IsDisk.shut {gk ck gs cs : Nat} {jk js : List Value} {v : Value} (h1 : ok g) (h2 : base ≤ g) (k1 : ok gk) (k2 : base ≤ gk) (s1 : ok gs) (s2 : base ≤ gs) (hne : gk ≠ gs) (kl : x.kept.length + jk.length = ck) (km : ck ≤ maxLen) (sl : x.seen.length + js.length = cs) (sm : cs ≤ maxLen)
    (hb : Blk w g 93 [.slice (some ⟨gk, 0, none⟩) x.kept.length ck, .slice (some ⟨gs, 0, none⟩) x.seen.length cs, v, .int .i64 x.life]) (kb : Blk w gk 5 (icells .u8 x.kept ++ jk)) (sb : Blk w gs 5 (icells .u8 x.seen ++ js))
    (pb : Wr.R 98 w base (fun k => (ok k ∧ k ≠ gk) ∧ k ≠ gs) v x.pend) : IsDisk w base ok g x :=
  ⟨_, _, _, h1, h2, hb, R_shut kb k2 k1 kl km, R_shut sb s2 ⟨s1, by simpa [Value.ownBlock] using Ne.symm hne⟩ sl sm, Kd.R_mono pb (fun k hk => ⟨hk.1.1, by simpa [Value.ownBlock] using hk.1.2, by simpa [Value.ownBlock] using hk.2⟩)⟩
theorem dk_len (h : IsDisk w base ok g x) (hg : Good x n) : Calls Try.prog 25 #[.pointer (some ⟨g, 0, none⟩)] w fun e w' => e = .returned (.int .i64 n) ∧ w = w' := by
  obtain ⟨gk, ck, jk, gs, cs, js, A, N, C, _, _, _, _, _, _, _, _, _, _, _, _, hb, _⟩ := h.open_ hg
  have := len_cells g x.seen.length cs _ w (hb.cell_at 1 _ rfl) (by rw [hg.seen]; have := hg.n2; omega)
  rwa [show x.seen.length / 32 = n by rw [hg.seen]; omega] at this
theorem dk_read (h : IsDisk w base ok g x) (hg : Good x n) (hn : n ≤ 8192) (s : Int) : Calls Try.prog 44 #[.pointer (some ⟨g, 0, none⟩), .int .i64 s] w fun e w' => ∃ v, e = .returned (.tuple #[v, .int .i64 (chk x.life s n)]) ∧ (Kd.int .u8).R 5 w' w.heap.size (fun _ => True) v (if chk x.life s n = 0 then sec x.seen s else []) ∧ Below w.heap.size w w' := by
  obtain ⟨gk, ck, jk, gs, cs, js, A, N, C, _, _, _, _, _, _, _, _, _, sl, _, _, hb, _, sb, _⟩ := h.open_ hg
  exact read_cells g gs cs n x.life s x.seen js _ _ w (Lib.hid hb) (Lib.hid sb) hg.seen hn (by omega)
/-- What a disk is behind a write, a barrier. -/
def DV.write (x : DV) (m : Nat) (b : List Int) : DV := ⟨x.kept, splice x.seen (m * 32) b, x.pend ++ [((m : Int), b)], spent x.life⟩
def DV.barrier (x : DV) : DV := ⟨x.seen, x.seen, [], spent x.life⟩
theorem spent_good {l : Int} (h : -1 ≤ l ∧ l ≤ 9223372036854775807) : -1 ≤ spent l ∧ spent l ≤ 9223372036854775807 := by unfold spent; split <;> omega
theorem Good.write (hg : Good x n) {m : Nat} (hm : m < n) {b : List Int} (hb : b.length = 32) (hbb : ∀ y ∈ b, 0 ≤ y ∧ y < 256) : Good (x.write m b) n := by
  have hl : (splice x.seen (m * 32) b).length = x.seen.length := length_splice _ _ _ (by rw [hg.seen, hb]; omega)
  refine ⟨hg.n1, hg.n2, hg.kept, hl.trans hg.seen, hg.bk, ?_, ?_, spent_good hg.life⟩
  · intro y hy
    show 0 ≤ y ∧ y < 256
    rcases List.mem_append.1 (show y ∈ x.seen.take (m * 32) ++ (b ++ x.seen.drop (m * 32 + b.length)) from hy) with h | h
    · exact hg.bs y (List.mem_of_mem_take h)
    · rcases List.mem_append.1 h with h | h
      · exact hbb y h
      · exact hg.bs y (List.mem_of_mem_drop h)
  · intro p hp
    rcases List.mem_append.1 (show p ∈ x.pend ++ [((m : Int), b)] from hp) with h | h
    · exact hg.pend p h
    · obtain rfl := List.mem_singleton.1 h
      exact ⟨⟨by simp, by simp; omega⟩, hb, hbb⟩
theorem Good.barrier (hg : Good x n) : Good x.barrier n := ⟨hg.n1, hg.n2, hg.seen, hg.seen, hg.bs, hg.bs, fun p hp => absurd hp (by simp [DV.barrier]), spent_good hg.life⟩
theorem dk_write (h : IsDisk w base ok g x) (hg : Good x n) (hn : n ≤ 8192) (hbase : base ≤ w.heap.size) (hpl : (x.pend.length + 1) * 32 ≤ 140737488355328) (hlife : x.life ≠ 0) (m : Nat) (hm : m < n) (ab ao c : Nat) (b : List Int) (hb : (Kd.int .u8).C w (some ⟨ab, ao, none⟩) 32 b) (hab : ab < w.heap.size) (hne : ¬ ok ab) :
    Calls Try.prog 48 #[.pointer (some ⟨g, 0, none⟩), .int .i64 (m : Int), .slice (some ⟨ab, ao, none⟩) 32 c] w fun e w' => e = .returned (.int .i64 0) ∧
      IsDisk w' base (fun k => ok k ∨ w.heap.size ≤ k) g (x.write m b) ∧ Only w w' ok := by
  obtain ⟨gk, ck, jk, gs, cs, js, A, N, C, o1, o2, k1, k2, s1, s2, hks, kl, km, sl, sm, rfl, hb0, kb, sb, pb⟩ := h.open_ hg
  refine (write_ok g gs cs n m base (fun k => ok k ∧ k ≠ gk) b ab ao c x.seen x.pend x.life js _ _ w (Lib.hid hb0) (Lib.hid sb) hg.seen hn (by omega) (Lib.hid pb) hbase hpl hm hlife hg.life.1 hg.life.2 (Lib.hid hb) (fun e => hne (e ▸ s1)) hab).mono ?_
  rintro e w' ⟨rfl, vp', d, s, p, o⟩
  have hl : (splice x.seen (m * 32) b).length = x.seen.length := length_splice _ _ _ (by rw [hg.seen, hb.1]; omega)
  have hok : ∀ k, (k = g ∨ k = gs ∨ some k = Value.ownBlock (.slice A x.pend.length C)) → ok k ∧ k ≠ gk := by
    rintro k (rfl | rfl | hk)
    · exact ⟨o1, Blk.ne_ hb0 kb (by decide)⟩
    · exact ⟨s1, Ne.symm hks⟩
    · exact (pb.1 k hk.symm).1
  refine ⟨rfl, ?_, o.mono (fun k _ hk => (hok k hk).1)⟩
  refine IsDisk.shut (x := x.write m b) (gk := gk) (ck := ck) (gs := gs) (cs := cs) (jk := jk) (js := js) (v := vp') (.inl o1) o2 (.inl k1) k2 (.inl s1) s2 hks kl km (by show (splice x.seen (m * 32) b).length + js.length = cs; omega) sm ?_ (kb.keep o (fun hk => (hok _ hk).2 rfl)) s ?_
  · show Blk w' g _ [_, .slice (some ⟨gs, 0, none⟩) (splice x.seen (m * 32) b).length cs, _, _]
    rw [hl]
    exact d
  · exact Kd.R_mono p (fun k hk => ⟨⟨hk.1.imp (fun h => h.1) id, fun e => by rcases hk.1 with h | h; exact h.2 e; exact absurd (e ▸ kb.lt) (by omega)⟩, hk.2⟩)
theorem dk_barrier (h : IsDisk w base ok g x) (hg : Good x n) (hn : n ≤ 8192) (hlife : x.life ≠ 0) :
    Calls Try.prog 49 #[.pointer (some ⟨g, 0, none⟩)] w fun e w' => e = .returned (.int .i64 0) ∧ IsDisk w' base ok g x.barrier ∧ Only w w' ok := by
  obtain ⟨gk, ck, jk, gs, cs, js, A, N, C, o1, o2, k1, k2, s1, s2, hks, kl, km, sl, sm, rfl, hb0, kb, sb, pb⟩ := h.open_ hg
  refine (barrier_ok g gk ck gs cs n x.kept x.seen x.life jk js _ w (Lib.hid hb0) (Lib.hid kb) (Lib.hid sb) hg.seen hg.kept hg.n1 hn hlife hg.life.1 hg.life.2 hks).mono ?_
  rintro e w' ⟨rfl, d, s, o⟩
  have hgs : g ≠ gs := Blk.ne_ hb0 sb (by decide)
  refine ⟨rfl, ?_, o.mono (fun k _ hk => by rcases hk with rfl | rfl; exact o1; exact k1)⟩
  refine IsDisk.shut (x := x.barrier) (gk := gk) (ck := ck) (gs := gs) (cs := cs) (jk := jk) (js := js) o1 o2 k1 k2 s1 s2 hks (by show x.seen.length + jk.length = ck; rw [hg.seen, ← hg.kept]; exact kl) km sl sm ?_ s (sb.keep o (fun hk => by rcases hk with hk | hk; exact hgs hk.symm; exact hks hk.symm)) (Kd.R_nil _ _ _ _ _)
  show Blk w' g _ [.slice (some ⟨gk, 0, none⟩) x.seen.length ck, _, _, _]
  rw [hg.seen, ← hg.kept, hg.kept, ← hg.seen]
  rw [show x.kept.length = x.seen.length by rw [hg.kept, hg.seen]] at d
  exact d
end Go.Proofs.Ytochnokfcfmgnaa.Dk
