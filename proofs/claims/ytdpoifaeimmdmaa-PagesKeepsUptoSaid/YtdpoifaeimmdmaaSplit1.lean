/- Seat A: sum.Reader and its three closures: what they answer and what they keep (blocks g: the bytes, g + 1: the place, g + 2: is there a fault). -/
import Derived.Test.YtdpoifaeimmdmaaSumRd
import Derived.Test.YtdpoifaeimmdmaaMem
import Derived.Deep.QuietTactic
import Derived.BigQuiet
import Derived.Outline
namespace Go.Proofs.Ytdpoifaeimmdmaa.Spl
open Go.RowKit Go.Proofs.Ytdpoifaeimmdmaa.PSumPlays Go.Proofs.YtdpoifaeimmdmaaW.PrintWords Go.Proofs.YtdpoifaeimmdmaaW.PrintLast Go.Proofs.YtdpoifaeimmdmaaW.PrintMore
open Go.Proofs.Ytdpoifaeimmdmaa.Mem Go.Proofs.Ytdpoifaeimmdmaa.Sp Go.Proofs.Ytdpoifaeimmdmaa.Rd
set_option linter.unusedVariables false
set_option linter.unusedSimpArgs false
set_option maxRecDepth 100000
/-- A reader's variables. -/
structure Rd3 (w : World) (g : Nat) (A : Option Addr) (n c at_ : Nat) (bad : Bool) : Prop where
  hb : Blk w g 22 [.slice A n c]
  ha : Blk w (g + 1) 3 [.int .i64 at_]
  hd : Blk w (g + 2) 4 [.bool bad]
def numS (l : List Int) (at_ : Nat) (bad : Bool) : Int × Nat × Bool :=
  if bad = true then (0, at_, true) else match rdP 9 true (l.drop at_) with
  | none => (0, at_, true)
  | some (n, r) => ((n : Int), l.length - r.length, false)
def bytS (l : List Int) (at_ : Nat) (bad : Bool) (n : Nat) : List Int × Nat × Bool :=
  if bad = true then ([], at_, true) else if l.length - at_ < n then ([], at_, true) else ((l.drop at_).take n, at_ + n, false)
def NumP (l : List Int) (A : Option Addr) (c g : Nat) (p : Int × Nat × Bool) (w : World) (e : Ending) (w' : World) : Prop :=
  e = .returned (.int .u64 p.1) ∧ Rd3 w' g A l.length c p.2.1 p.2.2 ∧ Only w w' (fun k => k = g + 1 ∨ k = g + 2)
theorem Rd3.facts {w : World} {g n c at_ : Nat} {A : Option Addr} {bad : Bool} (h : Rd3 w g A n c at_ bad) :
    w.cell? ⟨g, 0, none⟩ = some (.slice A n c) ∧ w.cell? ⟨g + 1, 0, none⟩ = some (.int .i64 at_) ∧ w.cell? ⟨g + 2, 0, none⟩ = some (.bool bad) ∧ w.frozen? ⟨g + 1, 0, none⟩ = false ∧ w.frozen? ⟨g + 2, 0, none⟩ = false :=
  ⟨h.hb.cell 0, h.ha.cell 0, h.hd.cell 0, h.ha.frozen 0, h.hd.frozen 0⟩
theorem Rd3.at' {w w' : World} {g n c at_ : Nat} {A : Option Addr} {bad : Bool} (h : Rd3 w g A n c at_ bad) (k : Nat) : Rd3 (w.drewN k) g A n c at_ bad := ⟨h.hb.drewN k, h.ha.drewN k, h.hd.drewN k⟩
theorem Rd3.setBad {w : World} {g n c at_ : Nat} {A : Option Addr} {bad : Bool} (h : Rd3 w g A n c at_ bad) (b : Bool) : Rd3 (w.setCell ⟨g + 2, 0, none⟩ (.bool b)) g A n c at_ b :=
  ⟨h.hb.far (by simp) _, h.ha.far (by simp) _, h.hd.set_ 0 _⟩
theorem Rd3.setAt {w : World} {g n c at_ : Nat} {A : Option Addr} {bad : Bool} (h : Rd3 w g A n c at_ bad) (k : Nat) : Rd3 (w.setCell ⟨g + 1, 0, none⟩ (.int .i64 k)) g A n c k bad :=
  ⟨h.hb.far (by simp) _, h.ha.set_ 0 _, h.hd.far (by simp) _⟩
theorem Rd3.below {w w' : World} {g n c at_ : Nat} {A : Option Addr} {bad : Bool} (h : Rd3 w g A n c at_ bad) (b : Below w.heap.size w w') : Rd3 w' g A n c at_ bad :=
  ⟨h.hb.below b h.hb.lt, h.ha.below b h.ha.lt, h.hd.below b h.hd.lt⟩
theorem only_below {w w1 w2 : World} {S : Nat → Prop} (h : Only w w1 S) (b : Below w1.heap.size w1 w2) : Only w w2 S :=
  h.step (S' := fun _ => False) (Only.of_below b _) (fun _ _ h => h.elim)
set_option maxHeartbeats 4000000 in
theorem number_c (l : List Int) (A : Option Addr) (c at_ : Nat) (bad : Bool) (w0 w : World) (g : Nat) (hg : w0.heap.size ≤ g) (hB : Below w0.heap.size w0 w) (hr : Kd.C (Kd.int .u8) w0 A l.length l) (hc : l.length ≤ c)
    (hx : ∀ x ∈ l, 0 ≤ x ∧ x < 256) (hn : l.length ≤ 140737488351232) (ha : at_ ≤ l.length) (h3 : Rd3 w g A l.length c at_ bad) :
    Calls Try.prog 49 #[.pointer (some ⟨g, 0, none⟩), .pointer (some ⟨g + 1, 0, none⟩), .pointer (some ⟨g + 2, 0, none⟩)] w (NumP l A c g (numS l at_ bad) w) := by
  obtain ⟨f0, f1, f2, f3, f4⟩ := h3.facts
  have hv := read_val l hx hn at_ ha 30 (by omega)
  have cR : ∀ r1 r2 r3, rdV l at_ = (r1, r2, r3) → Calls Try.prog 20 #[.slice A l.length c, .int .i64 at_] w fun e w' => e = .returned (.tuple #[.int .u64 r1, .int .i64 r2, .int .i64 r3]) ∧ Drawn0 w w' := fun r1 r2 r3 hR =>
    sum_Read.calls 30 A c l at_ r1 r2 r3 w (Kd.C_below hr hB) hc (by rw [hv, hR])
  cases bad with
  | true =>
    obtain ⟨⟨r1, r2, r3⟩, hR⟩ : ∃ r, rdV l at_ = r := ⟨_, rfl⟩
    have CR := Lib.hid (cR r1 r2 r3 hR)
    have H3 := Lib.hid h3
    have hs : numS l at_ true = (0, at_, true) := rfl
    have HS := Lib.hid hs
    clear cR hv hR h3 hr hB hx hs
    go_enter Try.func49, Try.ntmps49
    go_wp2_with (go_at_call 20; refine CR.out.mono ?_; rintro e w' ⟨rfl, ⟨m, rfl⟩⟩)
    go_ret
    unfold NumP
    rw [HS.out]
    exact ⟨rfl, (H3.out.at' (w' := w) m).setBad true, ((Only.refl w _).drewN m).setCell (fun _ => .inr rfl) _⟩
  | false =>
    cases h9 : rdP 9 true (l.drop at_) with
    | none =>
      have CR := Lib.hid (cR 0 0 9 (by unfold rdV; rw [h9]))
      have H3 := Lib.hid h3
      have hs : numS l at_ false = (0, at_, true) := by unfold numS; rw [h9]; rfl
      have HS := Lib.hid hs
      clear cR hv h3 hr hB hx hs h9
      go_enter Try.func49, Try.ntmps49
      go_wp2_with (go_at_call 20; refine CR.out.mono ?_; rintro e w' ⟨rfl, ⟨m, rfl⟩⟩)
      go_ret
      unfold NumP
      rw [HS.out]
      exact ⟨rfl, (H3.out.at' (w' := w) m).setBad true, ((Only.refl w _).drewN m).setCell (fun _ => .inr rfl) _⟩
    | some p =>
      obtain ⟨n, r⟩ := p
      have CR := Lib.hid (cR n ((l.length - r.length : Nat) : Int) 0 (by unfold rdV; rw [h9]))
      have H3 := Lib.hid h3
      have hs : numS l at_ false = ((n : Int), l.length - r.length, false) := by unfold numS; rw [h9]; rfl
      have HS := Lib.hid hs
      obtain ⟨q, hq⟩ : ∃ q, l.length - r.length = q := ⟨_, rfl⟩
      rw [hq] at CR HS
      clear cR hv h3 hr hB hx hs h9 hq
      go_enter Try.func49, Try.ntmps49
      go_wp2_with (go_at_call 20; refine CR.out.mono ?_; rintro e w' ⟨rfl, ⟨m, rfl⟩⟩)
      go_ret
      unfold NumP
      rw [HS.out]
      exact ⟨rfl, ((H3.out.at' (w' := w) m).setBad false).setAt q, (((Only.refl w _).drewN m).setCell (fun _ => .inr rfl) _).setCell (fun _ => .inl rfl) _⟩
theorem done_c (l : List Int) (A : Option Addr) (c at_ : Nat) (bad : Bool) (w : World) (g : Nat) (hn : l.length ≤ 140737488351232) (ha : at_ ≤ l.length) (h3 : Rd3 w g A l.length c at_ bad) :
    Calls Try.prog 51 #[.pointer (some ⟨g + 2, 0, none⟩), .pointer (some ⟨g + 1, 0, none⟩), .pointer (some ⟨g, 0, none⟩)] w fun e w' => e = .returned (.bool (!bad && decide (at_ = l.length))) ∧ w' = w := by
  obtain ⟨f0, f1, f2, f3, f4⟩ := h3.facts
  clear h3
  cases bad with
  | true =>
    go_enter Try.func51, Try.ntmps51
    go_wp2
    go_ret
    exact ⟨rfl, rfl⟩
  | false =>
    have hb : ((at_ : Int) == (l.length : Int)) = decide (at_ = l.length) := by rw [Bool.eq_iff_iff]; simp; omega
    have HB := Lib.hid hb
    clear hb
    go_enter Try.func51, Try.ntmps51
    go_wp2
    go_ret
    refine ⟨congrArg (fun b => Ending.returned (Value.bool b)) ?_, rfl⟩
    rw [HB.out]
    rfl
theorem cutL (l : List Int) (A : Option Addr) (c at_ n : Nat) (h : at_ + n ≤ l.length) (hc : l.length ≤ c) :
    ∃ A' : Option Addr, (∀ W : World, (Instr.slice 22 (.slice A l.length c) (some (.int .i64 (at_ : Int))) (some (.int .i64 ((at_ : Int) + (n : Int)))) none).run Try.prog W = .ok (.slice A' n (c - at_)) W) ∧
      (∀ w : World, Kd.C (Kd.int .u8) w A l.length l → Kd.C (Kd.int .u8) w A' n ((l.drop at_).take n)) := by
  obtain ⟨i, hi, hz⟩ := Option.map_eq_some_iff.1 info5
  simp only [Prod.mk.injEq] at hz
  obtain ⟨A', h1, h2, h3⟩ := print_mid_of (P := Try.prog) (Value.int .u8) (0 : Int) 22 5 .i64 .i64 Try.underlying22 hi hz.2.1 A c l (at_ : Int) ((at_ : Int) + (n : Int)) (by omega) (by omega) (by omega) hc
  have e : (l.take ((at_ : Int) + (n : Int)).toNat).drop ((at_ : Int)).toNat = (l.drop at_).take n := by
    rw [Int.toNat_natCast, show ((at_ : Int) + (n : Int)).toNat = at_ + n by omega, List.drop_take]
    congr 1
    omega
  have hl : ((l.drop at_).take n).length = n := by rw [List.length_take, List.length_drop]; omega
  rw [e, hl] at h1
  refine ⟨A', fun W => by rw [h1 W, Int.toNat_natCast], fun w hw => ?_⟩
  have h4 := h2 w (Kd.reads_of_C hw)
  rw [e] at h4
  have h5 := Kd.C_of_reads (h1 := fun _ => rfl) h4
  rw [hl] at h5
  exact h5
def BytP (l : List Int) (A : Option Addr) (c g : Nat) (p : List Int × Nat × Bool) (w : World) (e : Ending) (w' : World) : Prop :=
  ∃ v : Value, e = .returned v ∧ Kd.R (Kd.int .u8) 5 w' w.heap.size (fun _ => True) v p.1 ∧ Rd3 w' g A l.length c p.2.1 p.2.2 ∧ Only w w' (fun k => k = g + 1 ∨ k = g + 2)
set_option maxHeartbeats 4000000 in
theorem bytes_c (l : List Int) (A : Option Addr) (c at_ : Nat) (bad : Bool) (n : Nat) (w0 w : World) (g : Nat) (hg : w0.heap.size ≤ g) (hB : Below w0.heap.size w0 w) (hr : Kd.C (Kd.int .u8) w0 A l.length l) (hc : l.length ≤ c)
    (hn : l.length ≤ 140737488351232) (ha : at_ ≤ l.length) (hN : n < 9223372036854775808) (h3 : Rd3 w g A l.length c at_ bad) :
    Calls Try.prog 50 #[.int .u64 n, .pointer (some ⟨g + 2, 0, none⟩), .pointer (some ⟨g, 0, none⟩), .pointer (some ⟨g + 1, 0, none⟩)] w (BytP l A c g (bytS l at_ bad n) w) := by
  obtain ⟨f0, f1, f2, f3, f4⟩ := h3.facts
  cases bad with
  | true =>
    have H3 := Lib.hid h3
    have hs : bytS l at_ true n = ([], at_, true) := rfl
    have HS := Lib.hid hs
    clear h3 hr hB hs
    go_enter Try.func50, Try.ntmps50
    go_wp2
    go_ret
    unfold BytP
    rw [HS.out]
    exact ⟨_, rfl, Kd.R_nil _ _ _ _ _, H3.out.setBad true, (Only.refl w _).setCell (fun _ => .inr rfl) _⟩
  | false =>
    have hadd : ((at_ + n : Nat) : Int) = (at_ : Int) + (n : Int) := by omega
    by_cases hlt : l.length - at_ < n
    · have H3 := Lib.hid h3
      have hs : bytS l at_ false n = ([], at_, true) := by unfold bytS; rw [if_pos hlt]; rfl
      have HS := Lib.hid hs
      have hd : decide ((l.length : Int) - (at_ : Int) < (n : Int)) = true := by simp; omega
      clear h3 hr hB hs hadd
      go_enter Try.func50, Try.ntmps50
      go_wp2
      go_ret
      unfold BytP
      rw [HS.out]
      exact ⟨_, rfl, Kd.R_nil _ _ _ _ _, H3.out.setBad true, (Only.refl w _).setCell (fun _ => .inr rfl) _⟩
    · have hs : bytS l at_ false n = ((l.drop at_).take n, at_ + n, false) := by unfold bytS; rw [if_neg hlt]; rfl
      have HS := Lib.hid hs
      have hd : decide ((l.length : Int) - (at_ : Int) < (n : Int)) = false := by simp; omega
      obtain ⟨A', hcut, hC⟩ := cutL l A c at_ n (by omega) hc
      have H3 := Lib.hid ((h3.setBad false).setAt (at_ + n))
      rw [hadd] at H3
      have ho := ((Only.refl w (fun k => k = g + 1 ∨ k = g + 2)).setCell (p := ⟨g + 2, 0, none⟩) (fun _ => .inr rfl) (.bool false)).setCell (p := ⟨g + 1, 0, none⟩) (fun _ => .inl rfl) (.int .i64 ((at_ : Int) + (n : Int)))
      have HO := Lib.hid ho
      have hlen : ((l.drop at_).take n).length = n := by rw [List.length_take, List.length_drop]; omega
      have z0 := h3.hb.lt
      have z1 := h3.ha.lt
      have z2 := h3.hd.lt
      have hCw : Kd.C (Kd.int .u8) ((w.setCell ⟨g + 2, 0, none⟩ (.bool false)).setCell ⟨g + 1, 0, none⟩ (.int .i64 ((at_ : Int) + (n : Int)))) A' n ((l.drop at_).take n) := hC _ (Kd.C_below hr ((hB.setCell (p := ⟨g + 2, 0, none⟩) (by show _ ≤ g + 2; omega) _).setCell (p := ⟨g + 1, 0, none⟩) (by show _ ≤ g + 1; omega) _))
      have HC := Lib.hid hCw
      have HL := Lib.hid hlen
      clear h3 hr hB hs hadd hC ho hCw hlen
      obtain ⟨W1, hW1⟩ : ∃ W1, (w.setCell ⟨g + 2, 0, none⟩ (.bool false)).setCell ⟨g + 1, 0, none⟩ (.int .i64 ((at_ : Int) + (n : Int))) = W1 := ⟨_, rfl⟩
      rw [hW1] at H3 HO HC
      have HW1 := Lib.hid hW1
      clear hW1
      go_enter Try.func50, Try.ntmps50
      go_wp2_with (first | ((with_reducible refine gate_dst (N := 21) rfl ?_); refine Kd.R_lit (Kd.int .u8) (w0 := W1) W1.heap.size 5 ?hg (N := 21) ?hd (xs := ([] : List Int)) (inner := []) (ok := fun _ => True) (okp := fun _ => True) ?hr ?hp (fun _ hk => hk) trivial ?hBl ?hbl (by simp) ?_; (case hd => rfl); (case hg => rfl); (case hr => first | (go_simp; done) | (go_simp; rfl)); (case hp => exact (Reps.none _ _)); (case hBl => rw [HW1.out]; exact Below.refl _ _); (case hbl => rw [HW1.out]; exact Nat.le_refl _); intro v1 w1 ho hb hg1 hat; clear f0 f1 f2 f3 f4 hg1 hat; obtain ⟨f0, f1, f2, f3, f4⟩ := (H3.out.below hb).facts; simp only [Int.natCast_add] at f1; have HO1 := Lib.hid ho; have HB1 := Lib.hid hb; clear ho hb) | ((with_reducible refine gate_builtin (b := .append) (xs := #[.tmp 21, .tmp 28]) rfl ?_); at_builtin; refine Kd.R_append_rows (Kd.int .u8) (w0 := W1) W1.heap.size rfl (.tmp 21) (.tmp 28) 22 5 (.int .u8 0) 1 rfl Try.underlying22 info5 rfl (by decide) (by omega) v1 [] ((l.drop at_).take n) A' n (c - at_) (fun _ => True) (fun _ => False) rfl rfl ?aO ?aR (fun _ _ h => h) (fun _ h => h.elim) ?aF ?aB ?aS ?aL ?_; (case aR => exact Kd.C_below HC.out HB1.out); (case aB => exact HB1.out); (case aF => exact fun _ _ => trivial); (case aO => exact HO1.out); (case aS => exact HB1.out.size); (case aL => simp only [List.length_nil]; omega); intro v2 w2 ho2 hb2 hg2 hat2; clear hg2 hat2; have HO2 := Lib.hid ho2; have HB2 := Lib.hid hb2; clear ho2 hb2 f0 f1 f2 f3 f4))
      go_ret
      unfold BytP
      rw [HS.out]
      exact ⟨_, rfl, Kd.R_lower HO2.out HO.out.size, H3.out.below HB2.out, only_below HO.out HB2.out⟩
end Go.Proofs.Ytdpoifaeimmdmaa.Spl
