/- Seat A: the contracts that PagesKeeps uses, in plain words. -/
import Derived.Test.YtdpoifaeimmdmaaSegG
import Derived.Test.YtdpoifaeimmdmaaPPagesKeepsx1
import Derived.Test.YtdpoifaeimmdmaaPagesPure
namespace Go.Proofs.Ytdpoifaeimmdmaa.PKp
open Go.RowKit Go.Proofs.Ytdpoifaeimmdmaa.Mem Go.Proofs.YtdpoifaeimmdmaaW.PrintWords Go.Proofs.YtdpoifaeimmdmaaW.PrintLast Go.Proofs.YtdpoifaeimmdmaaW.PrintMore
open Go.Proofs.Ytdpoifaeimmdmaa.Hand Go.Proofs.Ytdpoifaeimmdmaa.Pp Go.Proofs.Ytdpoifaeimmdmaa.PPagesKeeps
set_option linter.unusedVariables false
set_option linter.unusedSimpArgs false
abbrev kB : Kd Int := Kd.int .u8
abbrev kI : Kd Int := Kd.int .i64
theorem awake3 : quirelaw03_awake.f = some true := by
  unfold quirelaw03_awake.f pages_Pack.f
  rw [if_pos (by decide), if_pos (by decide), if_pos (by decide)]
  have hp : pck 7 [1] = (packed 7 [1], 0) := if_pos (by decide)
  have hl := packed_length 7 [1] (by decide)
  rw [hp]
  simp only [Option.bind_some, if_true]
  have hr : rd (packed 7 [1]) 4 = 7 := by decide
  rw [hl, if_pos (show ((128 : Nat) : Int) = 128 from rfl), if_pos (by decide), hr]
  rfl
theorem awake_p (w : World) : Calls Try.prog 22 #[] w fun e w' => e = .returned (.bool true) ∧ Below w.heap.size w w' := quirelaw03_awake.calls true w awake3
theorem own_p (A : Option Addr) (c : Nat) (b : List Int) (w : World) (hr : kB.C w A b.length b) (hc : b.length ≤ c) (h : b.length ≤ 1048576) :
    Calls Try.prog 25 #[.slice A b.length c] w fun e w' => ∃ v : Value, e = .returned v ∧ kB.R 5 w' w.heap.size (fun _ => True) v b ∧ Below w.heap.size w w' :=
  quirelaw03_own.calls A c b b w hr hc (by unfold quirelaw03_own.f; rw [Option.bind_some, if_pos (by simp; omega)]; rfl)
theorem eSame : PPagesKeeps.quireref01_SameBytes.f = PSumPlays.quireref01_SameBytes.f := by kernel_rfl
theorem sameB_p (A A' : Option Addr) (c c' : Nat) (b : List Int) (w : World) (hr : kB.C w A b.length b) (hc : b.length ≤ c) (hr' : kB.C w A' b.length b) (hc' : b.length ≤ c') (h : b.length ≤ 5000000000000) :
    Calls Try.prog 17 #[.slice A b.length c, .slice A' b.length c'] w fun e w' => e = .returned (.bool true) ∧ Drawn0 w w' := by
  obtain ⟨k, hk⟩ : ∃ k : Nat, 9000000000000 ≤ k := ⟨_, Nat.le_refl _⟩
  exact quireref01_SameBytes.calls k A c b A' c' b true w hr hc hr' hc' (by rw [eSame]; exact Pure.same_self b (by omega) k (by omega))
theorem first_l0 (l : List Bool) (hl : l.length ≤ 1048576) (n : Int) (d : Nat) : ∀ (k i : Nat) (acc : List Int), i + d = l.length → d + 1 ≤ k → acc.length ≤ i → ∃ r e, pages_First.l0 k n acc l (l.length : Int) (i : Int) = some (r, e) ∧ r.length ≤ l.length := by
  induction d with
  | zero =>
    intro k i acc h hk ha
    obtain ⟨k, rfl⟩ : ∃ m, k = m + 1 := ⟨k - 1, by omega⟩
    rw [pages_First.l0, if_neg (by omega)]
    split
    · exact ⟨_, _, rfl, by simp⟩
    · exact ⟨_, _, rfl, by omega⟩
  | succ d ih =>
    intro k i acc h hk ha
    obtain ⟨k, rfl⟩ : ∃ m, k = m + 1 := ⟨k - 1, by omega⟩
    rw [pages_First.l0, if_pos (by omega), if_pos (by omega), if_pos (by omega), Pure.w64 (by omega) (by omega), show (i : Int) + 1 = ((i + 1 : Nat) : Int) by omega]
    split
    · exact ih k (i + 1) acc (by omega) (by omega) (by omega)
    · split
      · rw [if_pos (by omega)]
        exact ih k (i + 1) _ (by omega) (by omega) (by simp; omega)
      · exact ih k (i + 1) acc (by omega) (by omega) (by omega)
theorem first_val (l : List Bool) (hl : l.length ≤ 1048576) (n : Int) (k : Nat) (hk : l.length + 1 ≤ k) : ∃ r e, pages_First.f k l n = some (r, e) ∧ r.length ≤ l.length := by
  unfold pages_First.f
  split
  · exact ⟨_, _, rfl, by simp⟩
  · exact first_l0 l hl n l.length k 0 [] (by omega) hk (by simp)
def FirstP (l : List Bool) (w : World) (e : Ending) (w' : World) : Prop := ∃ (A : Option Addr) (n c : Nat) (ee : Int) (r : List Int), e = .returned (.tuple #[.slice A n c, .int .i64 ee]) ∧ kI.R 3 w' w.heap.size (fun _ => True) (.slice A n c) r ∧ n ≤ l.length ∧ Below w.heap.size w w'
theorem first_p (A : Option Addr) (c : Nat) (l : List Bool) (n : Int) (w : World) (hr : Kd.bool.C w A l.length l) (hc : l.length ≤ c) (hl : l.length ≤ 1048576) :
    Calls Try.prog 23 #[.slice A l.length c, .int .i64 n] w (FirstP l w) := by
  obtain ⟨r, e, h1, h2⟩ := first_val l hl n (l.length + 1) (Nat.le_refl _)
  refine (pages_First.calls _ A c l n r e w hr hc h1).mono fun e' w' he => ?_
  obtain ⟨v, rfl, hv, hb⟩ := he
  obtain ⟨A', c', rfl⟩ := Kd.R_slice hv
  exact ⟨A', _, c', e, r, rfl, hv, h2, hb⟩
def PackP (id : Int) (b : List Int) (w : World) (e : Ending) (w' : World) : Prop := ∃ (A : Option Addr) (c : Nat), e = .returned (.tuple #[.slice A (pck id b).1.length c, .int .i64 (pck id b).2]) ∧ kB.R 5 w' w.heap.size (fun _ => True) (.slice A (pck id b).1.length c) (pck id b).1 ∧ Below w.heap.size w w'
theorem pack_p (id : Int) (A : Option Addr) (c : Nat) (b : List Int) (w : World) (hr : kB.C w A b.length b) (hc : b.length ≤ c) (hid : 0 ≤ id ∧ id < 4294967296) (hb : ∀ x ∈ b, 0 ≤ x ∧ x < 256) :
    Calls Try.prog 24 #[.int .u32 id, .slice A b.length c] w (PackP id b w) :=
  (pack_any id A c b w hr hc hid hb).mono fun e w' he => by
    obtain ⟨v, rfl, hv, hB⟩ := he
    obtain ⟨A', c', rfl⟩ := Kd.R_slice hv
    exact ⟨A', c', rfl, hv, hB⟩
def UnpP (id : Int) (b : List Int) (w : World) (e : Ending) (w' : World) : Prop := ∃ (A : Option Addr) (c : Nat), e = .returned (.tuple #[.int .u32 id, .slice A b.length c, .int .i64 0]) ∧ kB.R 5 w' w.heap.size (fun _ => True) (.slice A b.length c) b ∧ Below w.heap.size w w'
theorem unp_p (id : Int) (A : Option Addr) (n c : Nat) (b : List Int) (w : World) (hr : kB.C w A n (packed id b)) (hc : n ≤ c) (hid : 0 ≤ id ∧ id < 4294967296) (hb : ∀ x ∈ b, 0 ≤ x ∧ x < 256) (hl : b.length ≤ 116) :
    Calls Try.prog 26 #[.slice A n c] w (UnpP id b w) := by
  have hn : n = (packed id b).length := hr.1.symm
  subst hn
  have := unpack_any A c (packed id b) w hr hc (packed_bytes id b hb)
  rw [unp_packed id b hid hl] at this
  exact this.mono fun e w' he => by
    obtain ⟨v, rfl, hv, hB⟩ := he
    obtain ⟨A', c', rfl⟩ := Kd.R_slice hv
    exact ⟨A', c', rfl, hv, hB⟩
theorem pck_cases (id : Int) (b : List Int) : (b.length ≤ 116 ∧ pck id b = (packed id b, 0) ∧ (packed id b).length = 128) ∨ (¬ b.length ≤ 116 ∧ pck id b = ([], 11)) := by
  by_cases h : b.length ≤ 116
  · exact .inl ⟨h, if_pos h, packed_length id b h⟩
  · exact .inr ⟨h, if_neg h⟩
end Go.Proofs.Ytdpoifaeimmdmaa.PKp
