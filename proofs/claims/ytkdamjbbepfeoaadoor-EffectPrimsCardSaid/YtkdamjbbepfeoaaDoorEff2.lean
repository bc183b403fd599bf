/- Seat D: effect.Prim: what it answers. -/
import Derived.Test.YtkdamjbbepfeoaaDoorEff1
import Derived.Test.YtkdamjbbepfeoaaDoorShelf
import Derived.WalkSmall
import Derived.Lib.Hide
import Derived.Deep.QuietTactic
import Derived.Deep.RegionHeld3
import Derived.Deep.LoopGhost
import Derived.ChangeOld
namespace Go.Proofs.YtkdamjbbepfeoaaDoor
open Go.RowKit Go.Shelf
set_option linter.unusedVariables false
set_option maxRecDepth 100000
/-- The table's text. -/
def tbl : ByteArray := ⟨#[49, 50, 58, 100, 117, 112, 32, 49, 48, 58, 100, 114, 111, 112, 32, 50, 50, 58, 115, 119, 97, 112, 32, 50, 51, 58, 111, 118, 101, 114, 32, 51, 51, 58, 114, 111, 116, 32, 50, 49, 58, 110, 105, 112, 32, 50, 51, 58, 116, 117, 99, 107, 32, 50, 49, 58, 43, 32, 50, 49, 58, 45, 32, 50, 49, 58, 42, 32, 50, 49, 58, 47, 32, 50, 49, 58, 109, 111, 100, 32, 49, 49, 58, 110, 101, 103, 32, 49, 49, 58, 97, 98, 115, 32, 50, 49, 58, 109, 105, 110, 32, 50, 49, 58, 109, 97, 120, 32, 50, 49, 58, 60, 32, 50, 49, 58, 62, 32, 50, 49, 58, 61, 32, 50, 49, 58, 97, 110, 100, 32, 50, 49, 58, 111, 114, 32, 49, 49, 58, 110, 111, 116, 32, 49, 49, 58, 105, 110, 116, 63, 32, 49, 49, 58, 115, 116, 114, 63, 32, 49, 49, 58, 98, 111, 111, 108, 63, 32, 49, 49, 58, 108, 105, 115, 116, 63, 32, 49, 49, 58, 113, 117, 111, 116, 63, 32, 49, 49, 58, 98, 111, 120, 63, 32, 49, 49, 58, 108, 101, 110, 103, 116, 104, 32, 50, 49, 58, 97, 112, 112, 101, 110, 100, 32, 50, 49, 58, 110, 116, 104, 32, 51, 49, 58, 115, 108, 105, 99, 101, 32, 49, 49, 58, 119, 114, 97, 112, 32, 50, 49, 58, 112, 97, 105, 114, 32, 49, 50, 58, 117, 110, 112, 97, 105, 114, 32, 49, 49, 58, 114, 101, 118, 101, 114, 115, 101, 32, 50, 49, 58, 99, 117, 114, 114, 121, 32, 50, 49, 58, 99, 111, 109, 112, 111, 115, 101, 32, 49, 49, 58, 62, 115, 116, 114, 32, 49, 49, 58, 62, 105, 110, 116, 32, 99, 97, 108, 108, 32, 100, 105, 112, 32, 107, 101, 101, 112, 32, 105, 102, 32, 119, 104, 101, 110, 32, 116, 105, 109, 101, 115, 32, 101, 97, 99, 104, 32, 108, 111, 111, 112, 32, 49, 49, 58, 98, 111, 120, 32, 49, 49, 58, 103, 101, 116, 32, 50, 48, 58, 112, 117, 116, 32, 49, 48, 58, 46]⟩
def wordsL : List (List UInt8) := Lib.fields tbl.data.toList
def good (x : List UInt8) : Bool := match Lib.cut x [58] with
  | ([a, b], _, true) => decide (48 ≤ a.toNat) && decide (a.toNat ≤ 57) && decide (48 ≤ b.toNat) && decide (b.toNat ≤ 57)
  | (_, _, f) => !f
theorem words_good : wordsL.all good = true := by decide +kernel
theorem words_len : wordsL.length ≤ 100 := by decide +kernel
theorem words_short : wordsL.all (fun x => decide (x.length < 100)) = true := by decide +kernel
theorem tbl_ascii : tbl.data.toList.all (fun b => decide (b.toNat < 128)) = true := by decide +kernel
theorem tbl_size : tbl.size < 4294967281 := by decide +kernel
/-- The first word of the table that bears a name. -/
def look (s : List UInt8) : List (List UInt8) → Int × Int × Bool
  | [] => (0, 0, false)
  | x :: r => match Lib.cut x [58] with
    | ([a, b], y, true) => if y = s then ((a.toNat : Int) - 48, (b.toNat : Int) - 48, true) else look s r
    | _ => look s r
def prim (s : ByteArray) : Int × Int × Bool := look s.data.toList wordsL
/-- What stays of the start-up's variables. -/
structure Shelf0 (w : World) : Prop where
  tab : Lib.TabIs Tryd.prog w "strings.asciiSpace" .u8 Lib.asciiSpaceTab
  max : ∃ m, w.cell? ⟨2, 0, none⟩ = some (.int .i64 m)
theorem gN : Tryd.prog.globalNamed "strings.asciiSpace" = some (Tryd.laysM157_ren.g 0) := by kernel_rfl
theorem Shelf0.below {w w' : World} (h : Shelf0 w) (b : Below w.heap.size w w') : Shelf0 w' := by
  refine ⟨?_, ?_⟩
  · exact var?_below b gN (World.block_lt_of_cell? _ _ (h.tab.cell gN 0 (by rw [Lib.asciiSpaceTab_length]; omega))) h.tab
  · obtain ⟨m, hm⟩ := h.max
    exact ⟨m, by rw [← hm]; exact World.cell?_of_block (b.block _ (World.block_lt_of_cell? _ _ hm))⟩
theorem str_eq (y : List UInt8) (s : ByteArray) : ((⟨y.toArray⟩ : ByteArray) = s) ↔ y = s.data.toList := by
  constructor
  · rintro rfl; simp
  · intro h; subst h; cases s; simp
theorem look_step (s x : List UInt8) (r : List (List UInt8)) (hg : good x = true) :
    ((Lib.cut x [58]).2.2 = false ∧ look s (x :: r) = look s r) ∨ (∃ a b y, Lib.cut x [58] = ([a, b], y, true) ∧ (48 ≤ a.toNat ∧ a.toNat ≤ 57 ∧ 48 ≤ b.toNat ∧ b.toNat ≤ 57) ∧ look s (x :: r) = if y = s then ((a.toNat : Int) - 48, (b.toNat : Int) - 48, true) else look s r) := by
  unfold good at hg
  split at hg
  · rename_i a b y e
    right
    refine ⟨a, b, y, e, by simpa [and_assoc] using hg, ?_⟩
    rw [look, e]
  · rename_i o y f hn e
    left
    have hf : f = false := by simpa using hg
    subst hf
    refine ⟨by rw [e], ?_⟩
    rw [look, e]
    split
    · rename_i e2; simp at e2
    · rfl
set_option maxHeartbeats 8000000 in
theorem prim_c (s : ByteArray) (w : World) (h : Shelf0 w) :
    Calls Tryd.prog 6 #[.string s] w fun e w' => e = .returned (.tuple #[eff (prim s).1 (prim s).2.1, .bool (prim s).2.2]) ∧ Below w.heap.size w w' := by
  have cF : ∀ o : Obj, Calls Tryd.prog 10 #[.string tbl] (w.alloc o) fun e w' =>
      e = .returned (.slice (some ⟨(w.alloc o).heap.size, 0, none⟩) wordsL.length wordsL.length) ∧ w' = (w.alloc o).alloc (.cells (wordsL.map fun l => Value.string ⟨l.toArray⟩).toArray 9) := fun o =>
    Any.strings_Fields_laid Tryd.laysM157 tbl (w.alloc o) tbl_size (fun j b hj => by
      have := List.all_eq_true.1 tbl_ascii b (List.mem_of_getElem? hj)
      simpa using this) (h.below ((Below.refl _ _).alloc (Nat.le_refl _) _)).tab
  have cC : ∀ (x : List UInt8) (w1 : World), x.length < 100 → (∃ m, w1.cell? ⟨2, 0, none⟩ = some (.int .i64 m)) → Calls Tryd.prog 11 #[.string ⟨x.toArray⟩, .string ⟨#[58]⟩] w1 fun e w' =>
      e = .returned (.tuple #[.string ⟨(Lib.cut x [58]).1.toArray⟩, .string ⟨(Lib.cut x [58]).2.1.toArray⟩, .bool (Lib.cut x [58]).2.2]) ∧ ∃ n, w' = w1.drewN n := fun x w1 hx hm => by
    obtain ⟨m, hm⟩ := hm
    have := Any.strings_Cut { Tryd.laysM145 with } ⟨x.toArray⟩ ⟨#[58]⟩ m w1 (by show x.toArray.size < _; simp; omega) hm
    simp at this
    exact this
  have hgood := words_good; have hshort := words_short; have hlen := words_len
  obtain ⟨P, hP⟩ : ∃ P, prim s = P := ⟨_, rfl⟩
  rw [hP]
  unfold prim at hP
  generalize wordsL = L at *
  unfold tbl at cF
  unfold eff
  have hmx : ∀ n, ∃ m, (((w.alloc (.cells #[.int .i64 0, .int .i64 0] 23)).alloc (.cells (L.map fun l => Value.string ⟨l.toArray⟩).toArray 9)).drewN n).cell? ⟨2, 0, none⟩ = some (.int .i64 m) := fun n =>
    (h.below (below_drewN (((Below.refl _ _).alloc (Nat.le_refl _) (.cells #[.int .i64 0, .int .i64 0] 23)).alloc (by simp) (.cells (L.map fun l => Value.string ⟨l.toArray⟩).toArray 9)) n)).max
  have HM := Lib.hid hmx
  have HG := Lib.hid hgood
  have HS := Lib.hid hshort
  have HC := Lib.hid cC
  have HL := Lib.hid hlen
  clear hmx hgood hshort cC hlen h
  go_enter Tryd.func6, Tryd.ntmps6
  go_wp2_with (go_at_call 10; refine (cF _).mono ?_; rintro e w' ⟨rfl, rfl⟩)
  clear cF
  go_loopg [11] L.length (fun m s11 wr => ∃ k n : Nat, k ≤ L.length ∧ m = L.length - k ∧ s11 = .int .i64 k ∧ wr = ((w.alloc (.cells #[.int .i64 0, .int .i64 0] 23)).alloc (.cells (L.map fun l => Value.string ⟨l.toArray⟩).toArray 9)).drewN n ∧ look s.data.toList (L.drop k) = P)
  case atStart => exact ⟨0, 0, by omega, by omega, rfl, rfl, by simpa using hP⟩
  case round =>
    obtain ⟨k, n, hk, rfl, rfl, rfl, hl⟩ := hrel
    by_cases hkn : k < L.length
    · have hkz : (k : Int) < (L.length : Int) := by omega
      have hk1 : wrap64 ((k : Int) + 1) = ((k + 1 : Nat) : Int) := by have := HL.out; unfold wrap64; omega
      obtain ⟨x, hx⟩ : ∃ x, L[k] = x := ⟨_, rfl⟩
      have hx1 : (L.map fun l => Value.string ⟨l.toArray⟩).toArray[k]? = some (.string ⟨x.toArray⟩) := by simp [hkn, hx]
      have hmem : x ∈ L := hx ▸ List.getElem_mem hkn
      have hxs : x.length < 100 := by simpa using List.all_eq_true.1 HS.out x hmem
      have hxg := List.all_eq_true.1 HG.out x hmem
      have hC := HC.out x
      rw [List.drop_eq_getElem_cons hkn, hx] at hl
      rcases look_step s.data.toList x (L.drop (k + 1)) hxg with ⟨h1, h2⟩ | ⟨a, b, y, h1, h3, h2⟩
      · rw [h1] at hC
        rw [h2] at hl
        have HC2 := Lib.hid hC; have HLL := Lib.hid hl; clear hC hl h1 h2 hmem hxg
        go_wp2_with (go_at_call 11; refine (HC2.out _ hxs (HM.out n)).mono ?_; rintro e w' ⟨rfl, m, rfl⟩)
        go_roundg (L.length - (k + 1))
        case measure => omega
        case rel => exact ⟨k + 1, n + m, by omega, rfl, by first | rfl | rw [hk1], by first | rfl | rw [World.drewN_drewN], HLL.out⟩
      · rw [h1] at hC
        rw [h2] at hl
        by_cases hy : y = s.data.toList
        · have hys : (⟨y.toArray⟩ : ByteArray) = s := (str_eq y s).2 hy
          rw [if_pos hy] at hl
          obtain ⟨ha1, ha2, hb1, hb2⟩ := h3
          rw [hys] at hC
          have HC2 := Lib.hid hC; have HLL := Lib.hid hl; clear hC hl h1 h2 hmem hxg
          go_wp2_with (go_at_call 11; refine (HC2.out _ hxs (HM.out n)).mono ?_; rintro e w' ⟨rfl, m, rfl⟩)
          have hA : IntKind.i64.wrap (IntKind.u8.wrap ((a.toNat : Int) - 48)) = (a.toNat : Int) - 48 := by simp [IntKind.wrap, IntKind.bits, IntKind.signed]; omega
          have hB : IntKind.i64.wrap (IntKind.u8.wrap ((b.toNat : Int) - 48)) = (b.toNat : Int) - 48 := by simp [IntKind.wrap, IntKind.bits, IntKind.signed]; omega
          have HA := Lib.hid hA; have HB := Lib.hid hB; clear hA hB
          go_region_with fail
          all_goals (try go_wp2)
          all_goals (try simp only [Exit.inBlock, Exit.then])
          all_goals (refine bodyPost_ret (v := .tuple #[eff ((a.toNat : Int) - 48) ((b.toNat : Int) - 48), .bool true]) ?_ rfl ⟨by rw [← HLL.out]; rfl, ?_⟩)
          rotate_left 1
          · repeat (first | exact Below.refl _ _ | refine below_drewN ?_ _ | refine Below.setCell (p := ⟨_, _, _⟩) ?_ (by simp) _ | refine Below.alloc ?_ (by simp <;> omega) _)
          rotate_left 1
          · repeat (first | exact Below.refl _ _ | refine below_drewN ?_ _ | refine Below.setCell (p := ⟨_, _, _⟩) ?_ (by simp) _ | refine Below.alloc ?_ (by simp <;> omega) _)
          all_goals rw [← HA.out, ← HB.out]
          · rw [results_cell_tmp rfl]; go_simp; rfl
          · rw [results_cell_tmp rfl]; go_simp; rfl
        · have hys : ¬ (⟨y.toArray⟩ : ByteArray) = s := fun e => hy ((str_eq y s).1 e)
          rw [if_neg hy] at hl
          generalize (⟨y.toArray⟩ : ByteArray) = Y at hC hys
          have hyt : (Y.toList == s.toList) = false := by
            rw [beq_eq_false_iff_ne, ByteArray.toList_eq, ByteArray.toList_eq]
            intro e
            exact hys (by cases Y; cases s; simp at e; rw [e])
          have HC2 := Lib.hid hC; have HLL := Lib.hid hl; clear hC hl h1 h2 hmem hxg
          go_wp2_with (go_at_call 11; refine (HC2.out _ hxs (HM.out n)).mono ?_; rintro e w' ⟨rfl, m, rfl⟩)
          go_roundg (L.length - (k + 1))
          case measure => omega
          case rel => exact ⟨k + 1, n + m, by omega, rfl, by first | rfl | rw [hk1], by first | rfl | rw [World.drewN_drewN], HLL.out⟩
    · obtain rfl : k = L.length := by omega
      rw [List.drop_length] at hl
      obtain rfl : (0, 0, false) = P := hl
      go_wp2
      refine bodyPost_ret (v := .tuple #[eff 0 0, .bool false]) (by rw [results_cell_tmp rfl]; go_simp; rfl) rfl ⟨rfl, ?_⟩
      repeat (first | exact Below.refl _ _ | refine below_drewN ?_ _ | refine Below.setCell ?_ (by simp) _ | refine Below.alloc ?_ (by simp <;> omega) _)
end Go.Proofs.YtkdamjbbepfeoaaDoor
