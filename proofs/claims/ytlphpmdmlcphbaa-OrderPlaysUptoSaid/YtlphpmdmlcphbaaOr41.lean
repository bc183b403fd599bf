/- Seat E: a book of lists of texts; who owns what; levels are in reach. -/
import Derived.Test.YtlphpmdmlcphbaaOr40
namespace Go.Proofs.Ytlphpmdmlcphbaa.ApG
open Go.RowKit Go.Proofs.Ytlphpmdmlcphbaa.Mem Go.Proofs.YtlphpmdmlcphbaaW.PrintWords Go.Proofs.Ytlphpmdmlcphbaa.Dk
set_option linter.unusedVariables false
set_option linter.unusedSimpArgs false
set_option maxHeartbeats 4000000 in
set_option maxRecDepth 100000 in
theorem apartInts_nil (w : World) : Calls Try.prog 32 #[.slice none 0 0] w fun e w' => e = .returned (.bool true) ∧ w = w' := by
  go_enter Try.func32, Try.ntmps32
  go_wp2_with fail
  go_loopg [4, 5] 0 (fun m gv iv wz => gv = .slice none 0 0 ∧ iv = .int .i64 0 ∧ w = wz)
  case atStart => exact ⟨rfl, rfl, rfl⟩
  case round =>
    obtain ⟨rfl, rfl, rfl⟩ := hrel
    go_wp2_with fail
    go_loopg [9] 0 (fun m iv wz => iv = .int .i64 0 ∧ w = wz)
    case atStart => exact ⟨rfl, rfl⟩
    case round =>
      obtain ⟨rfl, rfl⟩ := hrel
      go_wp2
      go_ret
      exact ⟨rfl, rfl⟩
set_option maxHeartbeats 4000000 in
set_option maxRecDepth 100000 in
theorem apartWords_nil (w : World) : Calls Try.prog 33 #[.slice none 0 0] w fun e w' => e = .returned (.bool true) ∧ w = w' := by
  go_enter Try.func33, Try.ntmps33
  go_wp2_with fail
  go_loopg [4, 5] 0 (fun m gv iv wz => gv = .slice none 0 0 ∧ iv = .int .i64 0 ∧ w = wz)
  case atStart => exact ⟨rfl, rfl, rfl⟩
  case round =>
    obtain ⟨rfl, rfl, rfl⟩ := hrel
    go_wp2_with fail
    go_loopg [9] 0 (fun m iv wz => iv = .int .i64 0 ∧ w = wz)
    case atStart => exact ⟨rfl, rfl⟩
    case round =>
      obtain ⟨rfl, rfl⟩ := hrel
      go_wp2
      go_ret
      exact ⟨rfl, rfl⟩
set_option maxHeartbeats 4000000 in
set_option maxRecDepth 100000 in
theorem apartBytes_nil (w : World) : Calls Try.prog 34 #[.slice none 0 0] w fun e w' => e = .returned (.bool true) ∧ w = w' := by
  go_enter Try.func34, Try.ntmps34
  go_wp2_with fail
  go_loopg [3] 2 (fun m rv wz => ∃ rd : Int, rv = .int .i64 rd ∧ w = wz ∧ Aside1 (0 ≤ rd ∧ rd + m = 2))
  case atStart => exact ⟨0, rfl, rfl, ⟨by omega, rfl⟩⟩
  case round =>
    obtain ⟨rd, rfl, rfl, hA⟩ := hrel
    have hrd : rd = 0 ∨ rd = 1 ∨ rd = 2 := by have := hA.out.1; have := hA.out.2; omega
    have HM := Lib.hid hA.out.2
    clear hA
    obtain ⟨go, hgo⟩ : ∃ go, go = gk := ⟨_, rfl⟩
    subst hgo
    rcases hrd with rfl | rfl | rfl
    · go_wp2_with fail
      go_loopg [4, 5] 0 (fun m gv iv wz => gv = .slice none 0 0 ∧ iv = .int .i64 0 ∧ w = wz)
      case atStart => exact ⟨rfl, rfl, rfl⟩
      case round =>
        obtain ⟨rfl, rfl, rfl⟩ := hrel
        go_wp2_with fail
        go_loopg [10] 0 (fun m iv wz => iv = .int .i64 0 ∧ w = wz)
        case atStart => exact ⟨rfl, rfl⟩
        case round =>
          obtain ⟨rfl, rfl⟩ := hrel
          go_wp2
          go_roundg (go - 1)
          case measure => have := HM.out; omega
          case rel => exact ⟨_, rfl, rfl, ⟨by omega, by have := HM.out; omega⟩⟩
    · go_wp2_with fail
      go_loopg [4, 5] 0 (fun m gv iv wz => gv = .slice none 0 0 ∧ iv = .int .i64 0 ∧ w = wz)
      case atStart => exact ⟨rfl, rfl, rfl⟩
      case round =>
        obtain ⟨rfl, rfl, rfl⟩ := hrel
        go_wp2_with fail
        go_loopg [10] 0 (fun m iv wz => iv = .int .i64 0 ∧ w = wz)
        case atStart => exact ⟨rfl, rfl⟩
        case round =>
          obtain ⟨rfl, rfl⟩ := hrel
          go_wp2
          go_roundg (go - 1)
          case measure => have := HM.out; omega
          case rel => exact ⟨_, rfl, rfl, ⟨by omega, by have := HM.out; omega⟩⟩
    · go_wp2
      go_ret
      exact ⟨rfl, rfl⟩
set_option maxHeartbeats 4000000 in
set_option maxRecDepth 100000 in
/-- A book of lists of texts. -/
theorem book_texts (gB : Nat) (A : Option Addr) (cap base : Nat) (own0 : Nat → Nat) (vs : List SL) (w : World) (hB : Hid (Blk w gB 46 [.slice none 0 0, .slice none 0 0, .slice none 0 0, .slice A vs.length cap])) (hS : Hid (slc.R 23 w base (fun q => own0 q = 0) (.slice A vs.length cap) vs)) (hP : Hid (Pieces kT 9 w base own0 vs)) (hb : base ≤ w.heap.size) (hn : vs.length * 24 ≤ 140737488355328) (hl : Hid (∀ p ∈ vs, (p.2.1 + 9) * 16 ≤ 140737488355328)) (hT : Hid (start vs vs.length ≤ 1152921504606846976)) :
    Calls Try.prog 16 #[.pointer (some ⟨gB, 0, none⟩)] w fun e w' => e = .returned (.bool true) ∧ Only w w' (fun q => 2 ≤ own0 q) := by
  have h0 := hB.out.cell_at 0 _ rfl
  have h1 := hB.out.cell_at 1 _ rfl
  have h2 := hB.out.cell_at 2 _ rfl
  have h3 := hB.out.cell_at 3 _ rfl
  go_enter Try.func16, Try.ntmps16
  go_wp2_with (first
    | (go_at_call 32; refine (apartInts_nil _).mono ?_; rintro e w1 ⟨rfl, rfl⟩)
    | (go_at_call 33; refine (apartWords_nil _).mono ?_; rintro e w1 ⟨rfl, rfl⟩)
    | (go_at_call 34; refine (apartBytes_nil _).mono ?_; rintro e w1 ⟨rfl, rfl⟩)
    | (go_at_call 35; refine (apartTexts_any A cap base own0 vs _ hS hP hb hn hl hT).mono ?_; rintro e w1 ⟨rfl, o1⟩; have O1 := Lib.hid o1; clear o1)
    | fail)
  go_ret
  exact ⟨rfl, O1.out⟩
/-- Whose block: piece k's is k + 2's; all others are nobody's. -/
noncomputable def ownOf (vs : List SL) (q : Nat) : Nat := by
  classical exact if h : ∃ (k : Nat) (p : SL), vs[k]? = some p ∧ (val p).ownBlock = some q then Classical.choose h + 2 else 0
theorem ownOf_zero {vs : List SL} {q : Nat} (h : ∀ (k : Nat) (p : SL), vs[k]? = some p → (val p).ownBlock ≠ some q) : ownOf vs q = 0 := by
  classical
  unfold ownOf
  rw [dif_neg (fun ⟨k, p, h1, h2⟩ => h k p h1 h2)]
theorem ownOf_piece {vs : List SL} {q k : Nat} {p : SL} (hd : ∀ (i j : Nat) (a b : SL), vs[i]? = some a → vs[j]? = some b → i ≠ j → ∀ q, (val a).ownBlock = some q → (val b).ownBlock ≠ some q) (hp : vs[k]? = some p) (hq : (val p).ownBlock = some q) : ownOf vs q = k + 2 := by
  classical
  unfold ownOf
  have h : ∃ (k : Nat) (p : SL), vs[k]? = some p ∧ (val p).ownBlock = some q := ⟨k, p, hp, hq⟩
  rw [dif_pos h]
  obtain ⟨p', h1, h2⟩ := Classical.choose_spec h
  by_cases e : Classical.choose h = k
  · rw [e]
  · exact absurd hq (hd _ _ p' p h1 hp e q h2)
theorem ownOf_two {vs : List SL} {q : Nat} (h : 2 ≤ ownOf vs q) : ∃ (k : Nat) (p : SL), vs[k]? = some p ∧ (val p).ownBlock = some q := by
  classical
  unfold ownOf at h
  by_cases h2 : ∃ (k : Nat) (p : SL), vs[k]? = some p ∧ (val p).ownBlock = some q
  · exact h2
  · rw [dif_neg h2] at h; omega
theorem start_bound {vs : List SL} {M : Nat} (h : ∀ p ∈ vs, p.2.1 ≤ M) : ∀ k, k ≤ vs.length → start vs k ≤ k * (M + 9)
  | 0, _ => Nat.zero_le _
  | k + 1, hk => by
    have ih := start_bound h k (by omega)
    rw [start_succ (List.getElem?_eq_getElem (show k < vs.length by omega))]
    have := h vs[k] (List.getElem_mem (by omega))
    rw [Nat.add_mul]
    omega
end Go.Proofs.Ytlphpmdmlcphbaa.ApG
namespace Go.Proofs.Ytlphpmdmlcphbaa.Or
theorem kOf_le {l : List Vo} {lv : ByteArray → Option Nat} {x : ByteArray} {n : Nat} (h : ∀ v ∈ uses l x, ∃ k, lv v = some k ∧ k < n) : kOf l lv x ≤ n := by
  unfold kOf
  have key : ∀ (us : List ByteArray) (k : Nat), k ≤ n → (∀ v ∈ us, ∃ k, lv v = some k ∧ k < n) → us.foldl (fun k u => max k ((lv u).getD 0 + 1)) k ≤ n := by
    intro us
    induction us with
    | nil => intro k hk _; exact hk
    | cons v r ih =>
      intro k hk h
      rw [List.foldl_cons]
      refine ih _ ?_ (fun z hz => h z (List.mem_cons_of_mem _ hz))
      obtain ⟨q, h1, h2⟩ := h v (by simp)
      rw [h1]
      simp only [Option.getD_some]
      omega
  exact key _ 0 (Nat.zero_le _) h
theorem lev_inv {l : List Vo} {o : List ByteArray} (hu : ∀ i (hi : i < o.length), ∀ u ∈ uses l o[i], u ∈ o.take i) : ∀ i, i ≤ o.length → ∀ u ∈ o.take i, ∃ k, (levs l (o.take i)).1 u = some k ∧ k < (levs l (o.take i)).2.length
  | 0, _, u, h => by simp at h
  | i + 1, hi, u, h => by
    have ih := lev_inv hu i (by omega)
    have hi' : i < o.length := by omega
    rw [List.take_succ_eq_append_getElem hi'] at h ⊢
    rw [levs_snoc]
    have hk : kOf l (levs l (o.take i)).1 o[i] ≤ (levs l (o.take i)).2.length := kOf_le (fun v hv => ih v (hu i hi' v hv))
    unfold levS
    dsimp only
    rw [List.length_set]
    have hlen : ∀ x, x < (levs l (o.take i)).2.length → x < (if kOf l (levs l (o.take i)).1 o[i] = (levs l (o.take i)).2.length then (levs l (o.take i)).2 ++ [[]] else (levs l (o.take i)).2).length := fun x hx => by
      split
      · simp; omega
      · exact hx
    by_cases he : u = o[i]
    · rw [if_pos he]
      refine ⟨_, rfl, ?_⟩
      split
      · simp; omega
      · omega
    · rw [if_neg he]
      rcases List.mem_append.1 h with h1 | h1
      · obtain ⟨k, h2, h3⟩ := ih u h1
        exact ⟨k, h2, hlen k h3⟩
      · exact absurd (List.mem_singleton.1 h1) he
theorem levOk_of {l : List Vo} {o : List ByteArray} (hu : ∀ i (hi : i < o.length), ∀ u ∈ uses l o[i], u ∈ o.take i) : LevOk l o := by
  intro i hi
  exact kOf_le (fun v hv => lev_inv hu i (Nat.le_of_lt hi) v (hu i hi v hv))
end Go.Proofs.Ytlphpmdmlcphbaa.Or
