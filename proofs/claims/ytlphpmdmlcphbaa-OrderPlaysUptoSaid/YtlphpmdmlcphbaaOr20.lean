/- Seat E: awake, walked. -/
import Derived.Test.YtlphpmdmlcphbaaOr19
namespace Go.Proofs.Ytlphpmdmlcphbaa.Or
open Go Go.RowKit Go.Proofs.Ytlphpmdmlcphbaa.Mem Go.Proofs.YtlphpmdmlcphbaaW.PrintWords Go.Maps Go.Proofs.Ytlphpmdmlcphbaa.Om
set_option linter.unusedVariables false
set_option linter.unusedSimpArgs false
set_option maxRecDepth 100000
set_option maxHeartbeats 400000
def nA : ByteArray := ⟨#[97]⟩
def l0 : List Vo := [(nA, [])]
theorem uses_l0 (x : ByteArray) : uses l0 x = [] := by
  unfold uses usesOf l0
  simp only [List.foldl_cons, List.foldl_nil]
  split <;> rfl
theorem fine_l0 : Fine l0 := by
  refine ⟨fun v hv => ?_, by decide, by decide⟩
  obtain rfl : v = (nA, []) := by simpa [l0] using hv
  exact ⟨by decide, fun u hu => absurd hu List.not_mem_nil⟩
theorem res_l0 {r : List ByteArray × ByteArray × Int} (h : Res l0 [nA] [] r) : r.1.length = 1 ∧ r.2.2 = 0 := by
  have hRW : ∀ x, RW l0 [nA] [] x → x = nA := by
    intro x hx
    cases hx with
    | base _ h1 h2 => simpa using h1
    | step z _ h1 h2 h3 => rw [uses_l0] at h2; cases h2
  have hb : bads l0 = [] := by simp [bads, l0, tst]
  cases h with
  | twice h => exact absurd hb h
  | none miss _ hm h =>
    obtain ⟨x, hx⟩ := List.exists_mem_of_ne_nil miss hm
    obtain ⟨h1, h2⟩ := (h x).1 hx
    rw [hRW x h1] at h2
    simp [usesOf, l0] at h2
  | cycle x _ _ _ h _ =>
    exfalso
    have : ∀ y, Rch (uses l0) ([] : List ByteArray).reverse (fun y => y ∈ uses l0 x) y → False := by
      intro y hy
      induction hy with
      | base y h1 _ => rw [uses_l0] at h1; cases h1
      | step z y _ h2 _ ih => exact ih
    exact this x h
  | ok o h _ =>
    refine ⟨?_, rfl⟩
    have h1 := h.len
    have h2 : nA ∈ o := (h.all nA).2 (.base nA (by simp) (by simp))
    have h3 := List.length_pos_of_mem h2
    simp [l0] at h1
    show o.length = 1
    omega
theorem awake_c (w : World) : Calls Try.prog 7 #[] w fun e w' => e = .returned (.bool true) ∧ Below w.heap.size w w' := by
  obtain ⟨⟨o, x, e⟩, hr, hR⟩ := sortV_res fine_l0 [nA] [] (by decide)
  obtain ⟨hl, he⟩ := res_l0 hR
  dsimp only at hl he
  subst he
  clear hR
  have b1 : Below w.heap.size w ((w.alloc (.cells #[.string nA, .slice none 0 0] 41)).alloc (.cells #[.string nA] 9)) := (((Only.refl w (fun _ => False)).alloc _).alloc _).below_all
  have X1 := (Blk.new w 41 [.string nA, .slice none 0 0]).alloc (.cells #[.string nA] 9)
  have X2 := Blk.new (w.alloc (.cells #[.string nA, .slice none 0 0] 41)) 9 [.string nA]
  have hVC : VC ((w.alloc (.cells #[.string nA, .slice none 0 0] 41)).alloc (.cells #[.string nA] 9)) (some ⟨w.heap.size, 0, none⟩) l0 := by
    intro k hk
    obtain rfl : k = 0 := by simp [l0] at hk; omega
    refine ⟨⟨w.heap.size, 0, none⟩, none, 0, rfl, ?_, ?_, Kd.C_nil _ _, Nat.le_refl _, .inl ⟨rfl, rfl⟩⟩
    · rw [add_flat]; exact X1.cell_at 0 _ rfl
    · rw [add_flat]; exact X1.cell_at 1 _ rfl
  have hO : OwnS ((w.alloc (.cells #[.string nA, .slice none 0 0] 41)).alloc (.cells #[.string nA] 9)) w.heap.size (.slice (some ⟨w.heap.size + 1, 0, none⟩) [nA].length 1) [nA] := by
    refine ⟨rfl, .inr ⟨w.heap.size + 1, 1, #[.string nA], rfl, Nat.le_succ _, ?_, Nat.le_refl _, by unfold maxLen; omega, rfl, rfl⟩⟩
    have h := X2
    rw [World.size_alloc] at h
    exact h
  obtain ⟨hC1, hc1, hf1⟩ := OwnS.reads hO
  have hns : ∀ u ∈ [nA], u.size ≤ maxLen := fun u hu => by
    have e : u = nA := by simpa using hu
    rw [e]
    decide
  have SO := Lib.hid (Sort_c (some ⟨w.heap.size, 0, none⟩) 1 l0 (some ⟨w.heap.size + 1, 0, none⟩) 1 [nA] none 0 [] _ hVC (Nat.le_refl _) fine_l0 hC1 hc1 hf1 ⟨hns, by decide⟩ (Kd.C_nil Kd.string _) (Nat.le_refl _) ⟨fun u hu => absurd hu List.not_mem_nil, Nat.zero_le _⟩ o x 0 hr)
  have B1 := Lib.hid b1
  clear hr b1 X1 X2 hVC hO hC1 hc1 hf1
  have hoi : (o.length : Int) = 1 := by omega
  go_enter Try.func7, Try.ntmps7
  go_wp2_with (first
    | (go_at_call 8; go_loud (refine SO.out.mono ?_); rintro en w1 ⟨v1, rfl, o1, b1⟩
       obtain ⟨Av, cv, rfl⟩ := OwnS.slice o1
       rw [hl]
       have B2 := Lib.hid (B1.out.trans (b1.mono B1.out.size))
       clear b1 o1)
    | fail)
  go_ret
  exact ⟨rfl, B2.out⟩
end Go.Proofs.Ytlphpmdmlcphbaa.Or
