/- Seat G: HeapNil: a root is pushed onto a heap without roots. -/
import Derived.Test.YtplngopjjpbbpaaHpNil2
import Derived.Deep.RegionLawGrows
import Derived.ArgAppend
namespace Go.Proofs.Ytplngopjjpbbpaa.Hp
open Go.RowKit Go.Proofs.Ytplngopjjpbbpaa.Mem Go.Maps
set_option linter.unusedVariables false
set_option maxRecDepth 100000
set_option maxHeartbeats 2000000
theorem info76m : (Try.prog.info? 76).map (fun i => (i.zero, i.size, i.bytes)) = some (some (.agg #[.bool false, .int .u64 0]), 2, 16) := by kernel_rfl
theorem info76 : ∃ i, Try.prog.info? 76 = some i ∧ i.zero = some (.agg #[.bool false, .int .u64 0]) ∧ i.size = 2 ∧ i.bytes = 16 := by
  have h := info76m
  cases hi : Try.prog.info? 76 with
  | none => rw [hi] at h; cases h
  | some i => rw [hi] at h; injection h with h; injection h with h1 h; injection h with h2 h3; exact ⟨i, rfl, h1, h2, h3⟩
/-- What an owned row that is new looks like. -/
theorem own_look {w : World} {base : Nat} {e : TypeId} {size : Nat} {v : Value} {n : Nat} {xs : List Value} (h : w.ownsRow base e size v n xs) (hn : 0 < n) :
    ∃ R c cur, v = .slice (some ⟨R, 0, none⟩) n c ∧ base ≤ R ∧ R < w.heap.size ∧ n ≤ c ∧ Blk w R e cur ∧ cur.take (n * size) = xs := by
  rcases h.2 with ⟨_, h0⟩ | ⟨R, c, cur, hv, hb, hg, hc, hm, hs, ht⟩
  · omega
  · have hg' : Blk w R e cur.toList := by unfold Blk; simpa using hg
    exact ⟨R, c, cur.toList, hv, hb, hg'.lt, hc, hg', ht⟩
theorem push_fresh (g : Nat) (young old M pins ws sm : Value) (n : Int) (w : World) (h : Blk w g 71 [young, old, M, .slice none 0 0, pins, ws, sm]) :
    Calls Try.prog 53 #[.pointer (some ⟨g, 0, none⟩), .agg #[.bool true, .int .u64 n]] w fun e w' => e = .returned (.int .i64 0) ∧ ∃ R c cur, w.heap.size ≤ R ∧
      Blk w' g 71 [young, old, M, .slice (some ⟨R, 0, none⟩) 1 c, pins, ws, sm] ∧ Blk w' R 76 cur ∧ cur.take 2 = [.bool true, .int .u64 n] ∧ Only w w' (fun k => k = g) := by
  have hL := Lib.hid h.lt
  have H := Lib.hid (h.alloc (.cells #[.bool true, .int .u64 n] 76))
  have h3 := H.out.cell_at 3 _ rfl
  have f3 := H.out.frozen 3
  have h3b := (H.out.alloc (.cells #[.bool true, .int .u64 n] 76)).cell_at 3 _ rfl
  obtain ⟨i, hi, hz0, hz1, hz2⟩ := info76
  have HN : Hid (∀ j u, ([.bool true, .int .u64 n] : List Value)[j]? = some u → ((w.alloc (.cells #[.bool true, .int .u64 n] 76)).alloc (.cells #[.bool true, .int .u64 n] 76)).cell? ((⟨w.heap.size + 1, 0, none⟩ : Addr).add j) = some u) := by
    refine Lib.hid fun j u hu => ?_
    have h := Blk.new (w.alloc (.cells #[.bool true, .int .u64 n] 76)) 76 [.bool true, .int .u64 n]
    simp only [World.size_alloc] at h
    rw [add_flat, Nat.zero_add]
    exact (h.cell j).trans hu
  clear h
  go_enter Try.func53, Try.ntmps53
  go_wp2_with fail
  go_region_law (first
    | (refine step_append_grows rfl (.tmp 15) (.tmp 17) 67 rfl 76 i (.agg #[.bool false, .int .u64 0]) 2 16 (by kernel_rfl) hi hz0 hz1 hz2 rfl (by decide) none 0 0 [] (by simp [Act.eval, Act.put]) (fun _ => ⟨rfl, rfl⟩) rfl (by intro b hb; cases hb) ⟨w.heap.size + 1, 0, none⟩ 1 1 [.bool true, .int .u64 n] (by simp [Act.eval, Act.put]) rfl (fun j u hu => HN.out j u hu) (by simp [Value.oneCell']) (by decide) (by decide) (by decide) ?_; intro v' w' hown hgrow; obtain ⟨R, c, cur, rfl, hb, hlt, hc, hB, ht⟩ := own_look hown (by decide); have HOWN := Lib.hid (And.intro hb (And.intro hB ht)); have HG := Lib.hid hgrow; have kg : w'.cell? ⟨g, 3, none⟩ = some (.slice none 0 0) := ((((H.out.alloc (.cells #[.bool true, .int .u64 n] 76)).drew).keep (Only.of_grown HG.out) (by simp))).cell_at 3 _ rfl; have fg : w'.frozen? ⟨g, 3, none⟩ = false := ((((H.out.alloc (.cells #[.bool true, .int .u64 n] 76)).drew).keep (Only.of_grown HG.out) (by simp))).frozen 3; clear hown hgrow hb hB ht)
    | fail)
  all_goals
    have G4 := Lib.hid ((((H.out.alloc (.cells #[.bool true, .int .u64 n] 76)).drew).keep (Only.of_grown HG.out) (by simp)).set_ 3 (.slice (some ⟨R, 0, none⟩) 1 c))
    have hR : w.heap.size + 2 ≤ R := by have h := HOWN.out.1; simpa using h
    have R4 := Lib.hid (HOWN.out.2.1.far (p := ⟨g, 3, none⟩) (by have := hL.out; simp only []; omega) (.slice (some ⟨R, 0, none⟩) 1 c))
    have O4 : Hid (Only w (w'.setCell ⟨g, 3, none⟩ (.slice (some ⟨R, 0, none⟩) 1 c)) (fun k => k = g)) := Lib.hid (((((((Only.refl w (fun k => k = g)).alloc (.cells #[.bool true, .int .u64 n] 76)).alloc (.cells #[.bool true, .int .u64 n] 76)).drew).step (Only.of_grown HG.out) (fun k _ h => by cases h)).setCell (p := ⟨g, 3, none⟩) (fun _ => rfl) (.slice (some ⟨R, 0, none⟩) 1 c)))
    have T4 := Lib.hid HOWN.out.2.2
    clear kg fg HG HOWN hlt h3 f3 h3b
    generalize w'.setCell ⟨g, 3, none⟩ (.slice (some ⟨R, 0, none⟩) 1 c) = w4 at *
    go_wp2
    go_ret
    exact ⟨rfl, R, c, cur, by omega, G4.out, R4.out, T4.out, O4.out⟩
end Go.Proofs.Ytplngopjjpbbpaa.Hp
