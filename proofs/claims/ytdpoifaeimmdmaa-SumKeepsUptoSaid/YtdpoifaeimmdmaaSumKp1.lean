/- Seat A: the contracts that SumKeeps uses, in plain words. -/
import Derived.Test.YtdpoifaeimmdmaaPureSumLists
import Derived.Test.YtdpoifaeimmdmaaApartN
namespace Go.Proofs.Ytdpoifaeimmdmaa.Kp
open Go.RowKit Go.Proofs.Ytdpoifaeimmdmaa.Mem Go.Proofs.YtdpoifaeimmdmaaW.PrintWords Go.Proofs.YtdpoifaeimmdmaaW.PrintLast Go.Proofs.YtdpoifaeimmdmaaW.PrintMore
open Go.Proofs.Ytdpoifaeimmdmaa.Sp Go.Proofs.Ytdpoifaeimmdmaa.Spl Go.Proofs.Ytdpoifaeimmdmaa.Rd Go.Proofs.Ytdpoifaeimmdmaa.Ap Go.Proofs.Ytdpoifaeimmdmaa.Dk Go.Proofs.Ytdpoifaeimmdmaa.PSumListsLv Go.Proofs.Ytdpoifaeimmdmaa.PSumLists
set_option linter.unusedVariables false
set_option linter.unusedSimpArgs false
abbrev kB : Kd Int := Kd.int .u8
abbrev kL : Kd (List Int) := Kd.slice 5 kB
/-- Bytes, and lists of bytes, up to the bulk. -/
structure Byt (b : List Int) (n : Nat) : Prop where
  len : b.length ≤ n
  byt : ∀ x ∈ b, 0 ≤ x ∧ x < 256
structure Lst (l : List (List Int)) (n : Nat) : Prop where
  len : l.length ≤ n
  each : ∀ b ∈ l, Byt b n
theorem bigk : ∃ k : Nat, 9000000000000 ≤ k := ⟨_, Nat.le_refl _⟩
theorem awake_k (w : World) : Calls Try.prog 13 #[] w fun e w' => e = .returned (.bool true) ∧ Below w.heap.size w w' := quirelaw02_awake.calls 60 true w (awake_val 60 (by omega))
theorem owns_k (A : Option Addr) (c : Nat) (l : List (List Int)) (w : World) (hr : kL.C w A l.length l) (hc : l.length ≤ c) (h : Lst l 1048576) :
    Calls Try.prog 33 #[.slice A l.length c] w fun e w' => ∃ v : Value, e = .returned v ∧ Kd.S kL 22 w' w.heap.size (fun _ => True) v l ∧ Below w.heap.size w w' := by
  obtain ⟨k, hk⟩ := bigk
  exact quirelaw02_owns.calls k A c l l w hr hc (owns_val l (by have := h.len; omega) (fun b hb => by have := (h.each b hb).len; omega) k (by have := h.len; omega))
theorem own_k (A : Option Addr) (c : Nat) (b : List Int) (w : World) (hr : kB.C w A b.length b) (hc : b.length ≤ c) (h : b.length ≤ 1048576) :
    Calls Try.prog 14 #[.slice A b.length c] w fun e w' => ∃ v : Value, e = .returned v ∧ kB.R 5 w' w.heap.size (fun _ => True) v b ∧ Below w.heap.size w w' :=
  quirelaw02_own.calls A c b b w hr hc (own_val b (by omega))
theorem join_k (A : Option Addr) (c : Nat) (l : List (List Int)) (w : World) (hr : kL.C w A l.length l) (hc : l.length ≤ c) (h : Lst l 1048576) :
    Calls Try.prog 32 #[.slice A l.length c] w fun e w' => ∃ v : Value, e = .returned v ∧ kB.R 5 w' w.heap.size (fun _ => True) v (joinP l) ∧ Below w.heap.size w w' := by
  obtain ⟨k, hk⟩ := bigk
  have hj := join_le l h.len (fun b hb => (h.each b hb).len)
  exact sum_Join.calls k A c l (joinP l) w hr hc (join_val l (by have := h.len; omega) (by omega) k (by have := h.len; omega))
theorem eSum : PSumLists.sum_Sum.f = PSumPlays.sum_Sum.f := by kernel_rfl
theorem sum_k (A : Option Addr) (c : Nat) (b : List Int) (w : World) (hr : kB.C w A b.length b) (hc : b.length ≤ c) (h : Byt b 1048576) :
    Calls Try.prog 15 #[.slice A b.length c] w fun e w' => e = .returned (.int .u32 (Pure.sumOf b)) ∧ Drawn0 w w' := by
  obtain ⟨k, hk⟩ := bigk
  exact sum_Sum.calls k A c b _ w hr hc (by rw [eSum]; exact Pure.sum_eq b h.byt (by have := h.len; omega) k (by have := h.len; omega))
theorem read_k (A : Option Addr) (c : Nat) (b : List Int) (w : World) (hr : kB.C w A b.length b) (hc : b.length ≤ c) (h : Byt b 1048576) :
    Calls Try.prog 20 #[.slice A b.length c, .int .i64 0] w fun e w' => e = .returned (.tuple #[.int .u64 (rdV b 0).1, .int .i64 (rdV b 0).2.1, .int .i64 (rdV b 0).2.2]) ∧ Drawn0 w w' :=
  PSumPlays.sum_Read.calls 30 A c b ((0 : Nat) : Int) _ _ _ w hr hc (read_val b h.byt (by have := h.len; omega) 0 (by omega) 30 (by omega))
theorem split_k (A : Option Addr) (c : Nat) (b : List Int) (w : World) (hr : kB.C w A b.length b) (hc : b.length ≤ c) (h : Byt b 1048576) :
    Calls Try.prog 35 #[.slice A b.length c] w fun e w' => ∃ v : Value, e = .returned (.tuple #[v, .int .i64 (ansS b).2]) ∧ Kd.S kL 22 w' w.heap.size (fun _ => True) v (ansS b).1 ∧ Below w.heap.size w w' :=
  split_c b A c w hr hc h.byt (by have := h.len; omega)
theorem sameL_k (A A' : Option Addr) (c c' : Nat) (l : List (List Int)) (w : World) (hr : kL.C w A l.length l) (hc : l.length ≤ c) (hr' : kL.C w A' l.length l) (hc' : l.length ≤ c') (h : Lst l 1048576) :
    Calls Try.prog 37 #[.slice A l.length c, .slice A' l.length c'] w fun e w' => e = .returned (.bool true) ∧ Drawn0 w w' := by
  obtain ⟨k, hk⟩ := bigk
  exact quireref01_SameLists.calls k A c l A' c' l true w hr hc hr' hc' (sameLists_val l (by have := h.len; omega) 1048576 (fun b hb => (h.each b hb).len) (by omega) k (by have := h.len; omega))
theorem sameB_k (A A' : Option Addr) (c c' : Nat) (b : List Int) (w : World) (hr : kB.C w A b.length b) (hc : b.length ≤ c) (hr' : kB.C w A' b.length b) (hc' : b.length ≤ c') (h : b.length ≤ 5000000000000) :
    Calls Try.prog 17 #[.slice A b.length c, .slice A' b.length c'] w fun e w' => e = .returned (.bool true) ∧ Drawn0 w w' := by
  obtain ⟨k, hk⟩ := bigk
  exact quireref01_SameBytes.calls k A c b A' c' b true w hr hc hr' hc' (same_val b (by omega) k (by omega))
theorem ans_lst (b : List Int) (h : Byt b 1048576) : Lst (ansS b).1 1048576 := by
  rcases ans_of b h.byt with ⟨z, hz, e, ez⟩ | ⟨_, e⟩
  · rw [e]
    clear hz
    obtain ⟨h1, h2⟩ := lists_le z 1048576 (by rw [← ez]; exact h.len)
    refine ⟨h1, fun c hc => ⟨h2 c hc, fun x hx => h.byt x ?_⟩⟩
    rw [ez]
    refine List.mem_append_right _ ?_
    clear e ez h1 h2
    show x ∈ cat z
    induction z with
    | nil => cases hc
    | cons d r ih =>
      rcases List.mem_cons.1 hc with rfl | hc
      · exact List.mem_append_right _ (List.mem_append_left _ hx)
      · exact List.mem_append_right _ (List.mem_append_right _ (ih hc))
  · rw [e]; exact ⟨by simp, fun c hc => by cases hc⟩
theorem ans_end (b : List Int) : ((ansS b).2 == 0) = true ∨ ((ansS b).2 == 0) = false ∧ (ansS b).1 = [] := by
  unfold ansS
  split
  · exact .inl rfl
  · exact .inr ⟨rfl, rfl⟩
end Go.Proofs.Ytdpoifaeimmdmaa.Kp
