/- Seat A: sum.Split: it answers Sp.splitP. -/
import Derived.Test.YtdpoifaeimmdmaaSplit1
import Derived.Deep.LoopGhost
namespace Go.Proofs.Ytdpoifaeimmdmaa.Spl
open Go.RowKit Go.Proofs.Ytdpoifaeimmdmaa.PSumPlays Go.Proofs.YtdpoifaeimmdmaaW.PrintWords Go.Proofs.YtdpoifaeimmdmaaW.PrintLast Go.Proofs.YtdpoifaeimmdmaaW.PrintMore
open Go.Proofs.Ytdpoifaeimmdmaa.Mem Go.Proofs.Ytdpoifaeimmdmaa.Sp Go.Proofs.Ytdpoifaeimmdmaa.Rd
set_option linter.unusedVariables false
set_option linter.unusedSimpArgs false
set_option maxRecDepth 100000
/-- k rounds: what is collected, the place, is there a fault. -/
def runS (l : List Int) : Nat → List (List Int) × Nat × Bool → List (List Int) × Nat × Bool
  | 0, s => s
  | k + 1, (acc, a, b) =>
    let p := numS l a b
    let q := bytS l p.2.1 p.2.2 p.1.toNat
    runS l k (acc ++ [q.1], q.2.1, q.2.2)
theorem run_bad (l : List Int) : ∀ (k : Nat) (acc : List (List Int)) (a : Nat), (runS l k (acc, a, true)).2.2 = true
  | 0, _, _ => rfl
  | k + 1, acc, a => by
    simp only [runS, numS, bytS]
    exact run_bad l k _ _
theorem drop_len {l r : List Int} {a k : Nat} {d : Nat} {f : Bool} (hx : ∀ x ∈ l, 0 ≤ x ∧ x < 256) (h : rdP d f (l.drop a) = some (k, r)) : l.drop (l.length - r.length) = r ∧ l.length - r.length ≤ l.length ∧ l.length - (l.length - r.length) = r.length := by
  obtain ⟨h1, _⟩ := rd_back d f (l.drop a) k r (fun x hm => hx x (List.mem_of_mem_drop hm)) h
  have h2 : l = (l.take a ++ enc k) ++ r := by rw [List.append_assoc, ← h1, List.take_append_drop]
  have h3 : r.length ≤ l.length := by rw [h2, List.length_append]; omega
  refine ⟨?_, by omega, by omega⟩
  have h4 : l.length - r.length = (l.take a ++ enc k).length := by
    conv => lhs; rw [h2]
    rw [List.length_append (bs := r)]; omega
  rw [h4]
  exact (congrArg (List.drop (l.take a ++ enc k).length) h2).trans List.drop_left
theorem run_ok (l : List Int) (hx : ∀ x ∈ l, 0 ≤ x ∧ x < 256) : ∀ (k : Nat) (acc : List (List Int)) (a : Nat), a ≤ l.length →
    (match splN k (l.drop a) with
      | some (z, q) => runS l k (acc, a, false) = (acc ++ z, l.length - q.length, false) ∧ q.length ≤ l.length
      | none => (runS l k (acc, a, false)).2.2 = true)
  | 0, acc, a, ha => by
    simp only [splN, runS, List.append_nil, Prod.mk.injEq, true_and, and_true, List.length_drop]
    omega
  | k + 1, acc, a, ha => by
    rw [splN]
    cases h1 : rdP 9 true (l.drop a) with
    | none =>
      simp only [runS, numS, bytS, h1]
      exact run_bad l k _ _
    | some p =>
      obtain ⟨n, r⟩ := p
      obtain ⟨d1, d2, d3⟩ := drop_len hx h1
      have hn : numS l a false = ((n : Int), l.length - r.length, false) := by unfold numS; rw [h1]; rfl
      simp only [runS, hn, Int.toNat_natCast]
      by_cases c : r.length < n
      · rw [if_pos c]
        have hb : bytS l (l.length - r.length) false n = ([], l.length - r.length, true) := by simp only [bytS, Bool.false_eq_true, if_false]; rw [if_pos (by omega)]
        simp only [hb]
        exact run_bad l k _ _
      · rw [if_neg c]
        have hb : bytS l (l.length - r.length) false n = (r.take n, l.length - r.length + n, false) := by simp only [bytS, Bool.false_eq_true, if_false]; rw [if_neg (by omega), d1]
        simp only [hb]
        have hd : l.drop (l.length - r.length + n) = r.drop n := by rw [← List.drop_drop, d1]
        have ih := run_ok l hx k (acc ++ [r.take n]) (l.length - r.length + n) (by omega)
        rw [hd] at ih
        cases h2 : splN k (r.drop n) with
        | none => rw [h2] at ih; exact ih
        | some p =>
          obtain ⟨z, q⟩ := p
          rw [h2] at ih
          simp only [Option.map_some]
          exact ⟨by rw [ih.1, List.append_assoc]; rfl, ih.2⟩
/-- What Split answers: behind the first number n, the rounds. -/
def ansS (l : List Int) : List (List Int) × Int := match splitP l with
  | some z => (z, 0)
  | none => ([], 9)
theorem ans_first_bad (l : List Int) (h : rdP 9 true l = none) : ansS l = ([], 9) := by unfold ansS splitP; rw [h]
theorem ans_big (l : List Int) (n : Nat) (r : List Int) (h : rdP 9 true l = some (n, r)) (hn : l.length < n) : ansS l = ([], 9) := by unfold ansS splitP; rw [h]; simp only; rw [if_pos hn]
theorem ans_run (l : List Int) (hx : ∀ x ∈ l, 0 ≤ x ∧ x < 256) (n : Nat) (r : List Int) (h : rdP 9 true l = some (n, r)) (hn : ¬ l.length < n) :
    ansS l = if (!(runS l n ([], l.length - r.length, false)).2.2 && decide ((runS l n ([], l.length - r.length, false)).2.1 = l.length)) = true then ((runS l n ([], l.length - r.length, false)).1, 0) else ([], 9) := by
  have h' : rdP 9 true (l.drop 0) = some (n, r) := h
  obtain ⟨d1, d2, d3⟩ := drop_len hx h'
  have hr := run_ok l hx n [] (l.length - r.length) d2
  rw [d1] at hr
  unfold ansS splitP
  rw [h]
  simp only
  rw [if_neg hn]
  cases h2 : splN n r with
  | none =>
    rw [h2] at hr
    simp only at hr
    rw [hr]
    rfl
  | some p =>
    obtain ⟨z, q⟩ := p
    rw [h2] at hr
    simp only at hr
    rw [hr.1]
    cases q with
    | nil => simp
    | cons x q =>
      simp only [List.length_cons] at hr ⊢
      rw [if_neg (by simp; omega)]
theorem run_at_le (l : List Int) (hx : ∀ x ∈ l, 0 ≤ x ∧ x < 256) (a : Nat) (b : Bool) (ha : a ≤ l.length) : (numS l a b).2.1 ≤ l.length ∧ 0 ≤ (numS l a b).1 ∧ (numS l a b).1 < 9223372036854775808 := by
  unfold numS
  split
  · exact ⟨ha, by simp, by simp⟩
  · cases h : rdP 9 true (l.drop a) with
    | none => exact ⟨ha, by simp, by simp⟩
    | some p =>
      obtain ⟨n, r⟩ := p
      obtain ⟨_, h2, _⟩ := rd_back 9 true (l.drop a) n r (fun x hm => hx x (List.mem_of_mem_drop hm)) h
      have : (128 : Nat) ^ 9 = 9223372036854775808 := by decide
      exact ⟨by show l.length - r.length ≤ l.length; omega, by show (0 : Int) ≤ (n : Int); omega, by show (n : Int) < _; omega⟩
theorem byt_at_le (l : List Int) (a : Nat) (b : Bool) (n : Nat) (ha : a ≤ l.length) : (bytS l a b n).2.1 ≤ l.length := by
  unfold bytS
  split
  · exact ha
  · split
    · exact ha
    · show a + n ≤ l.length; omega
theorem reader_c (A : Option Addr) (n c : Nat) (w : World) :
    Calls Try.prog 47 #[.slice A n c] w fun e w' => e = .returned (.tuple #[.func (.func 49) #[] #[.pointer (some ⟨w.heap.size, 0, none⟩), .pointer (some ⟨w.heap.size + 1, 0, none⟩), .pointer (some ⟨w.heap.size + 2, 0, none⟩)],
      .func (.func 50) #[] #[.pointer (some ⟨w.heap.size + 2, 0, none⟩), .pointer (some ⟨w.heap.size, 0, none⟩), .pointer (some ⟨w.heap.size + 1, 0, none⟩)],
      .func (.func 51) #[] #[.pointer (some ⟨w.heap.size + 2, 0, none⟩), .pointer (some ⟨w.heap.size + 1, 0, none⟩), .pointer (some ⟨w.heap.size, 0, none⟩)]]) ∧
      Rd3 w' w.heap.size A n c 0 false ∧ Below w.heap.size w w' ∧ w'.heap.size = w.heap.size + 3 := by
  have hmf : ∀ (fn : Fn) (first cap : Array Value) (w : World), (Instr.makeFunc fn first cap).run Try.prog w = .ok (.func fn first cap) w := fun _ _ _ _ => rfl
  go_enter Try.func47, Try.ntmps47
  go_wp2
  go_ret3
  have e0 : Blk (w.alloc (.cells #[.slice A n c] 22)) w.heap.size 22 [.slice A n c] := Blk.new w 22 [.slice A n c]
  have e1 : Blk ((w.alloc (.cells #[.slice A n c] 22)).alloc (.cells #[.int .i64 0] 3)) (w.heap.size + 1) 3 [.int .i64 0] := by
    have := Blk.new (w.alloc (.cells #[.slice A n c] 22)) 3 [.int .i64 0]
    rw [World.size_alloc] at this
    exact this
  have e2 : Blk (((w.alloc (.cells #[.slice A n c] 22)).alloc (.cells #[.int .i64 0] 3)).alloc (.cells #[.bool false] 4)) (w.heap.size + 2) 4 [.bool false] := by
    have := Blk.new ((w.alloc (.cells #[.slice A n c] 22)).alloc (.cells #[.int .i64 0] 3)) 4 [.bool false]
    rw [World.size_alloc, World.size_alloc] at this
    exact this
  exact ⟨rfl, ⟨(e0.alloc _).alloc _, e1.alloc _, e2⟩, (((Below.refl _ _).alloc (Nat.le_refl _) _).alloc (by simp) _).alloc (by simp; omega) _, by simp⟩
def SplP (l : List Int) (w : World) (e : Ending) (w' : World) : Prop :=
  ∃ v : Value, e = .returned (.tuple #[v, .int .i64 (ansS l).2]) ∧ Kd.S (Kd.slice 5 (Kd.int .u8)) 22 w' w.heap.size (fun _ => True) v (ansS l).1 ∧ Below w.heap.size w w'
theorem below_of_only {w w1 w2 : World} {g : Nat} (hb : Below w.heap.size w w1) (hg : w.heap.size ≤ g) (h : Only w1 w2 (fun k => k = g + 1 ∨ k = g + 2)) : Below w.heap.size w w2 :=
  hb.trans (h.below hb.size (fun k hk e => by omega))
theorem ans_all (l : List Int) (hx : ∀ x ∈ l, 0 ≤ x ∧ x < 256) : ∃ (m a : Nat) (b : Bool), numS l 0 false = ((m : Int), a, b) ∧ m < 9223372036854775808 ∧ a ≤ l.length ∧
    ((l.length < m ∧ ansS l = ([], 9)) ∨ (m ≤ l.length ∧ ansS l = if (!(runS l m ([], a, b)).2.2 && decide ((runS l m ([], a, b)).2.1 = l.length)) = true then ((runS l m ([], a, b)).1, 0) else ([], 9))) := by
  cases h : rdP 9 true l with
  | none =>
    have h' : rdP 9 true (l.drop 0) = none := h
    refine ⟨0, 0, true, by unfold numS; rw [h']; rfl, by omega, by omega, .inr ⟨by omega, ?_⟩⟩
    rw [ans_first_bad l h]
    rfl
  | some p =>
    obtain ⟨n, r⟩ := p
    have h' : rdP 9 true (l.drop 0) = some (n, r) := h
    obtain ⟨_, h2, _⟩ := rd_back 9 true l n r hx h
    have h9 : (128 : Nat) ^ 9 = 9223372036854775808 := by decide
    refine ⟨n, l.length - r.length, false, by unfold numS; rw [h']; rfl, by omega, by omega, ?_⟩
    by_cases c : l.length < n
    · exact .inl ⟨c, ans_big l n r h c⟩
    · exact .inr ⟨by omega, ans_run l hx n r h c⟩
theorem info22s : (Try.prog.info? 22).map (fun i => (i.zero, i.size, i.bytes)) = some (some (.slice none 0 0), 1, 24) := by kernel_rfl
set_option maxHeartbeats 8000000 in
theorem split_c (l : List Int) (A : Option Addr) (c : Nat) (w : World) (hr : Kd.C (Kd.int .u8) w A l.length l) (hc : l.length ≤ c)
    (hx : ∀ x ∈ l, 0 ≤ x ∧ x < 256) (hn : l.length ≤ 5000000000000) : Calls Try.prog 35 #[.slice A l.length c] w (SplP l w) := by
  have cR := reader_c A l.length c w
  obtain ⟨m, a1, b1, hnum, hm, ha1, hans⟩ := ans_all l hx
  rcases hans with ⟨hbig, hans⟩ | ⟨hle, hans⟩
  · have hd : decide ((l.length : Int) < (m : Int)) = true := by simp; omega
    have HA := Lib.hid hans
    have HN := Lib.hid hnum
    have HX := Lib.hid hx
    have HR := Lib.hid hr
    clear hans hnum hx hr
    go_enter Try.func35, Try.ntmps35
    go_wp2_with fail
    (go_at_call 47; refine cR.mono ?_; rintro e w1 ⟨rfl, h3, hB, hS⟩; clear cR)
    have cN := number_c l A c 0 false w w1 w.heap.size (Nat.le_refl _) hB HR.out hc HX.out (by omega) (Nat.zero_le _) h3
    rw [HN.out] at cN
    have HC := Lib.hid cN; have H3 := Lib.hid h3; have HB := Lib.hid hB; have HS := Lib.hid hS; clear cN h3 hB hS
    go_wp2_with (go_at_call 49; refine HC.out.mono ?_; rintro e w2 ⟨rfl, h4, hO⟩; have H4 := Lib.hid h4; have HO := Lib.hid hO; clear h4 hO)
    go_ret2
    unfold SplP
    rw [HA.out]
    exact ⟨_, rfl, Kd.S_nil _ _ _ _ _, below_of_only HB.out (Nat.le_refl _) HO.out⟩
  · have hd : decide (l.length < m) = false := by simp; omega
    obtain ⟨F, hF⟩ : ∃ F, runS l m ([], a1, b1) = F := ⟨_, rfl⟩
    rw [hF] at hans
    have HF := Lib.hid hF
    have HA := Lib.hid hans
    have HN := Lib.hid hnum
    have HX := Lib.hid hx
    have HR := Lib.hid hr
    clear hans hnum hx hr hF
    go_enter Try.func35, Try.ntmps35
    go_wp2_with fail
    (go_at_call 47; refine cR.mono ?_; rintro e w1 ⟨rfl, h3, hB, hS⟩; clear cR)
    have cN := number_c l A c 0 false w w1 w.heap.size (Nat.le_refl _) hB HR.out hc HX.out (by omega) (Nat.zero_le _) h3
    rw [HN.out] at cN
    have HC := Lib.hid cN; have H3 := Lib.hid h3; have HB := Lib.hid hB; have HS := Lib.hid hS; clear cN h3 hB hS
    go_wp2_with (go_at_call 49; refine HC.out.mono ?_; rintro e w2 ⟨rfl, h4, hO⟩; have H4 := Lib.hid h4; have HO := Lib.hid hO; clear h4 hO)
    clear HC
    go_loopg [8, 23] m (fun gk v8 v23 wr => ∃ (k : Nat) (acc : List (List Int)) (a : Nat) (b : Bool), k ≤ m ∧ gk = m - k ∧ v23 = .int .u64 k ∧ acc.length = k ∧ a ≤ l.length ∧ Hid (runS l (m - k) (acc, a, b) = F) ∧ Hid (Rd3 wr w.heap.size A l.length c a b) ∧ Hid (Kd.S (Kd.slice 5 (Kd.int .u8)) 22 wr w1.heap.size (fun j => w1.heap.size ≤ j) v8 acc) ∧ Hid (Below w.heap.size w wr) ∧ Hid (w1.heap.size ≤ wr.heap.size))
    case atStart => exact ⟨0, [], a1, b1, Nat.zero_le _, rfl, rfl, rfl, ha1, HF, H4, Lib.hid (Kd.S_nil _ _ _ _ _), Lib.hid (below_of_only HB.out (Nat.le_refl _) HO.out), Lib.hid HO.out.size⟩
    case round =>
      obtain ⟨k, acc, a, b, hk, rfl, rfl, hal, ha, HF', H3', HSS, HB', HZ⟩ := hrel
      have hw3 : w1.heap.size = w.heap.size + 3 := HS.out
      by_cases hkm : k < m
      · have hd1 : decide ((k : Int) < (m : Int)) = true := by simp; omega
        have HAL := Lib.hid hal
        have cN := number_c l A c a b w wr w.heap.size (Nat.le_refl _) HB'.out HR.out hc HX.out (by omega) ha H3'.out
        obtain ⟨q1, q2, q3⟩ := run_at_le l HX.out a b ha
        obtain ⟨⟨n, a2, b2⟩, hnum⟩ : ∃ p, numS l a b = p := ⟨_, rfl⟩
        rw [hnum] at cN q1 q2 q3
        obtain ⟨n, rfl⟩ := Int.eq_ofNat_of_zero_le q2
        have hq3 : n < 9223372036854775808 := by simp only at q3; omega
        have hf := HF'.out
        rw [show m - k = (m - (k + 1)) + 1 by omega] at hf
        simp only [runS, hnum, Int.toNat_natCast] at hf
        have hq4 := byt_at_le l a2 b2 n q1
        obtain ⟨⟨x, a3, b3⟩, hbyt⟩ : ∃ p, bytS l a2 b2 n = p := ⟨_, rfl⟩
        rw [hbyt] at hf hq4
        have HF2 := Lib.hid hf; have HC := Lib.hid cN; have HBY := Lib.hid hbyt
        have hz := HZ.out
        have hk1 : IntKind.u64.wrap ((k : Int) + 1) = ((k + 1 : Nat) : Int) := by rw [Pure.wrap_u64]; omega
        have HK1 := Lib.hid hk1
        clear hf cN hbyt hnum HF' q2 q3 hal hk1 hw3
        go_wp2_with fail
        (go_at_call 49; refine HC.out.mono ?_; rintro e w3 ⟨rfl, h5, hO⟩)
        have cB := bytes_c l A c a2 b2 n w w3 w.heap.size (Nat.le_refl _) (below_of_only HB'.out (Nat.le_refl _) hO) HR.out hc (by omega) q1 hq3 h5
        rw [HBY.out] at cB
        have HCB := Lib.hid cB; have HO3 := Lib.hid hO
        clear cB h5 hO
        go_wp2_with fail
        (go_at_call 50; refine HCB.out.mono ?_; rintro e w4 ⟨v, rfl, hv, h6, hO4⟩)
        obtain ⟨Ao, co, rfl⟩ := Kd.R_slice hv
        have hs3 : Kd.S (Kd.slice 5 (Kd.int .u8)) 22 w3 w1.heap.size (fun j => w1.heap.size ≤ j ∧ j < w3.heap.size) u8 acc :=
          Kd.S_mono (Kd.S_bound (Kd.S_step HSS.out (fun j hj hlt => HO3.out.block j hlt (by have := HS.out; omega)))) (fun j hj => ⟨hj.1, hj.2.2.1⟩)
        have hs4 : Kd.S (Kd.slice 5 (Kd.int .u8)) 22 w4 w1.heap.size (fun j => w1.heap.size ≤ j ∧ j < w3.heap.size) u8 acc :=
          Kd.S_step hs3 (fun j hj hlt => hO4.block j hlt (by have := HS.out; omega))
        have hbase : ∀ j, (Value.slice Ao x.length co).ownBlock = some j → w3.heap.size ≤ j := Kd.R_base hv
        have hlt8 : ∀ j, u8.ownBlock = some j → j < w3.heap.size := Kd.S_lt hs3
        have hz3 : w1.heap.size ≤ w3.heap.size := Nat.le_trans hz HO3.out.size
        have hP : (Kd.slice 5 (Kd.int .u8)).M w4 w1.heap.size (fun j => some j = (Value.slice Ao x.length co).ownBlock) x [.slice Ao x.length co] := Kd.M_row (Kd.R_tight rfl (Kd.R_lower hv hz3))
        have HV := Lib.hid hv; have H6 := Lib.hid h6; have HO4 := Lib.hid hO4; have HS4 := Lib.hid hs4; have HBs := Lib.hid hbase; have HL8 := Lib.hid hlt8; have HP := Lib.hid hP
        clear hv h6 hO4 hs3 hs4 hbase hlt8 hP
        go_wp2_with ((with_reducible refine gate_builtin (b := .append) (xs := #[.tmp 25, .tmp 30]) rfl ?_); at_builtin; refine Kd.S_append (Kd.slice 5 (Kd.int .u8)) (w0 := w4) w1.heap.size rfl (.tmp 25) (.tmp 30) 50 22 (.slice none 0 0) 24 rfl Try.underlying50 info22s rfl (by decide) (by omega) u8 acc x [.slice Ao x.length co] (fun j => w1.heap.size ≤ j) (fun j => some j = (Value.slice Ao x.length co).ownBlock) rfl rfl HP.out ?aK ?aF ?aO (Below.refl _ _) ?aS ?aL ?_; (case aK => exact fun j hj => ⟨by have := HBs.out j hj.symm; omega, fun e8 => by have := HBs.out j hj.symm; have := HL8.out j e8.symm; omega⟩); (case aF => exact fun j hj => by have := HO4.out.size; omega); (case aO => exact Kd.S_mono HS4.out (fun j hj => ⟨hj.1, fun e8 => by have := HBs.out j e8.symm; omega⟩)); (case aS => have := HO4.out.size; omega); (case aL => rw [HAL.out]; omega); intro v5 w5 hs5 hb5 hg5 ha5; clear hg5 ha5; have HS5 := Lib.hid hs5; have HB5 := Lib.hid hb5; clear hs5 hb5)
        go_roundg (m - (k + 1))
        case measure => omega
        case rel => exact ⟨k + 1, acc ++ [x], a3, b3, by omega, rfl, by first | rfl | rw [HK1.out] | simp, by rw [List.length_append, HAL.out]; rfl, hq4, HF2, Lib.hid ⟨H6.out.hb.below HB5.out (by have := HS.out; omega), H6.out.ha.below HB5.out (by have := HS.out; omega), H6.out.hd.below HB5.out (by have := HS.out; omega)⟩, HS5, Lib.hid ((below_of_only (below_of_only HB'.out (Nat.le_refl _) HO3.out) (Nat.le_refl _) HO4.out).trans (HB5.out.mono (by have := HS.out; omega))), Lib.hid (by have := HO4.out.size; have := HB5.out.size; omega)⟩
      · obtain rfl : k = m := by omega
        have hf := HF'.out
        rw [Nat.sub_self] at hf
        have hf' : (acc, a, b) = F := hf
        subst hf'
        have hd1 : decide ((k : Int) < (k : Int)) = false := by simp
        have hlt1 : ((k : Int) < (k : Int)) = False := by simp
        have cD := done_c l A c a b wr w.heap.size (by omega) ha H3'.out
        have HC := Lib.hid cD
        clear cD hf HF'
        cases hdb : (!b && decide (a = l.length)) with
        | true =>
          rw [hdb] at HC HA
          have HA2 := Lib.hid (HA.out.trans (if_pos rfl))
          clear hdb HA
          go_wp2_with (go_at_call 51; refine HC.out.mono ?_; rintro e w6 ⟨rfl, rfl⟩)
          go_ret2
          unfold SplP
          rw [HA2.out]
          exact ⟨_, rfl, Kd.S_mono (Kd.S_lower HSS.out (by have := HS.out; omega)) (fun _ _ => trivial), HB'.out⟩
        | false =>
          rw [hdb] at HC HA
          have HA2 := Lib.hid (HA.out.trans (if_neg (by decide)))
          clear hdb HA
          go_wp2_with (go_at_call 51; refine HC.out.mono ?_; rintro e w6 ⟨rfl, rfl⟩)
          go_ret2
          unfold SplP
          rw [HA2.out]
          exact ⟨_, rfl, Kd.S_nil _ _ _ _ _, HB'.out⟩
end Go.Proofs.Ytdpoifaeimmdmaa.Spl
