/- Texts merged: a section each. -/
import Derived.Test.YtochnokfcfmgnaaProg
import Derived.Test.YtochnokfcfmgnaaMA
import Derived.RowKit
import Derived.Test.YtochnokfcfmgnaaMX
import Derived.Test.YtochnokfcfmgnaaMV
import Derived.OpenShut
import Derived.ChangeSlices
import Derived.SizedLaws
import Derived.Deep.Grids
import Derived.Test.YtochnokfcfmgnaaMB
import Derived.Shelf.SlMaps.Clone
import Derived.Ground.SlmcProg
section
/- The contract of pages.put32: four bytes of a block that is known whole. -/
namespace Go.Proofs.Ytochnokfcfmgnaa.Hand
open Go.RowKit Go.Proofs.Ytochnokfcfmgnaa.Mem
set_option linter.unusedVariables false
set_option linter.unusedSimpArgs false

/-- Byte k of a number, the lowest first. -/
def byteN (a : Int) (k : Nat) : Int := a / 2 ^ (8 * k) % 256
def le32 (a : Int) : List Int := [byteN a 0, byteN a 1, byteN a 2, byteN a 3]
def le (a : Int) (k : Nat) : List Int := (List.range k).map (byteN a)
theorem le_four (a : Int) : le a 4 = le32 a := rfl
theorem le_succ (a : Int) (k : Nat) : le a (k + 1) = le a k ++ [byteN a k] := by simp [le, List.range_succ]
theorem le_length (a : Int) (k : Nat) : (le a k).length = k := by simp [le]
theorem splice_nil {α : Type} (xs : List α) (o : Nat) : splice xs o [] = xs := by simp [splice]
theorem splice_snoc {α : Type} (xs : List α) (o : Nat) (ys : List α) (v : α) (h : o + ys.length < xs.length) : (splice xs o ys).set (o + ys.length) v = splice xs o (ys ++ [v]) := by
  unfold splice
  have h1 : (xs.take o).length = o := by simp; omega
  rw [List.set_append_right _ _ (by omega), h1, show o + ys.length - o = ys.length by omega, List.set_append_right _ _ (by omega), Nat.sub_self]
  have h2 : (xs.drop (o + ys.length)).set 0 v = v :: xs.drop (o + (ys ++ [v]).length) := by
    conv => lhs; rw [List.drop_eq_getElem_cons h]
    show v :: _ = v :: _
    rw [List.length_append, List.length_singleton, Nat.add_assoc]
  rw [h2]
  simp
set_option maxHeartbeats 1000000 in
theorem put32_any (g o n c : Nat) (xs : List Int) (a : Int) (w : World) (hb : Blk w g 5 (icells .u8 xs)) (ho : o + 4 ≤ xs.length) (hn : 4 ≤ n) (ha : 0 ≤ a) (ha2 : a < 4294967296) :
    Calls Try.prog 89 #[.slice (some ⟨g, o, none⟩) n c, .int .u32 a] w fun e w' => e = .returned (.tuple #[]) ∧ Blk w' g 5 (icells .u8 (splice xs o (le32 a))) ∧ Only w w' (fun k => k = g) := by
  have HB := Lib.hid hb
  clear hb
  have hn' : 4 ≤ (n : Int) := by omega
  go_enter Try.func89, Try.ntmps89
  go_wp2
  go_loopg [5] 4 (fun m i wr => ∃ k : Nat, i = .int .i64 k ∧ Aside1 (k + m = 4 ∧ Blk wr g 5 (icells .u8 (splice xs o (le a k))) ∧ Only w wr (fun j => j = g)))
  case atStart => exact ⟨0, rfl, ⟨rfl, by rw [show le a 0 = [] from rfl, splice_nil]; exact HB.out, Only.refl _ _⟩⟩
  case round =>
    obtain ⟨k, rfl, hA⟩ := hrel
    by_cases hk : k < 4
    · obtain ⟨hm, hB, hO⟩ := hA.out
      have hlen : o + k < (splice xs o (le a k)).length := by rw [length_splice _ _ _ (by rw [le_length]; omega)]; omega
      have hcell : wr.cell? ⟨g, o + k, none⟩ = some (.int .u8 ((splice xs o (le a k)).getD (o + k) 0)) := hB.cell_at _ _ (icells_getD _ _ _ hlen)
      have hfr : wr.frozen? ⟨g, o + k, none⟩ = false := hB.frozen _
      have h1 : (k : Int) < (n : Int) := by omega
      have h2 : (0 : Int) ≤ (k : Int) := by omega
      have hN : Blk (wr.setCell ⟨g, o + k, none⟩ (.int .u8 (byteN a k))) g 5 (icells .u8 (splice xs o (le a (k + 1)))) := by
        have h3 := hB.set_ (o + k) (.int .u8 (byteN a k))
        have h4 := splice_snoc xs o (le a k) (byteN a k) (by rw [le_length]; omega)
        rw [le_length] at h4
        rw [icells_set, h4, ← le_succ] at h3
        exact h3
      have hO2 : Only w (wr.setCell ⟨g, o + k, none⟩ (.int .u8 (byteN a k))) (fun j => j = g) := hO.setCell (fun _ => rfl) _
      have HN := Lib.hid hN
      have HO := Lib.hid hO2
      clear hN hO2 hB hO hA hlen
      go_wp2
      go_roundg (gk - 1)
      case measure => omega
      case rel => exact ⟨k + 1, by go_num, ⟨by omega, HN.out, HO.out⟩⟩
    · go_wp2
      go_end0
      obtain ⟨hm, hB, hO⟩ := hA.out
      have : k = 4 := by omega
      subst this
      exact ⟨rfl, by rw [← le_four]; exact hB, hO⟩
end Go.Proofs.Ytochnokfcfmgnaa.Hand
end

section
/- The plain law behind the sum of bytes: one round of the division by bits is linear and loses nothing. No condition. -/
namespace Go.Proofs.Ytochnokfcfmgnaa.Crc
set_option linter.unusedVariables false
set_option linter.unusedSimpArgs false

def pol : BitVec 32 := 3988292384#32
/-- One round. -/
def rnd (r : BitVec 32) : BitVec 32 := (r >>> 1) ^^^ (if r.getLsbD 0 then pol else 0#32)
def rn : Nat → BitVec 32 → BitVec 32
  | 0, r => r
  | n + 1, r => rn n (rnd r)
/-- A byte, in the lowest places. -/
def by8 (c : Int) : BitVec 32 := BitVec.ofInt 32 c
def bstep (r : BitVec 32) (c : Int) : BitVec 32 := rn 8 (r ^^^ by8 c)
def crc (r : BitVec 32) (l : List Int) : BitVec 32 := l.foldl bstep r
/-- The lowest j bytes of a word; its byte j. -/
def low (x : BitVec 32) (j : Nat) : BitVec 32 := (x.setWidth (8 * j)).setWidth 32
def bOf (x : BitVec 32) (j : Nat) : BitVec 32 := ((x >>> (8 * j)).setWidth 8).setWidth 32
/-- What differs behind j bytes that differ by those of x. -/
def err (x : BitVec 32) (j : Nat) : BitVec 32 := rn (8 * j) (low x j)
end Go.Proofs.Ytochnokfcfmgnaa.Crc
end

section
/- What the sum of bytes is, the bytes of a number, and which number stands at a place: the program tells what the reference tells. No condition but that the values are of their kinds. -/
namespace Go.Proofs.Ytochnokfcfmgnaa.Pure
set_option linter.unusedVariables false
set_option linter.unusedSimpArgs false
open Go.RowKit Go.Proofs.Ytochnokfcfmgnaa.PShadowCrashes Go.Proofs.YtochnokfcfmgnaaW.PrintWords Go.Proofs.YtochnokfcfmgnaaW.PrintLast Go.Proofs.YtochnokfcfmgnaaW.PrintMore
open Go.Proofs.Ytochnokfcfmgnaa.Crc
theorem u32_lt (v : BitVec 32) : IntKind.u32.wrap ((v.toNat : Nat) : Int) = v.toNat := by
  have := v.isLt
  simp [IntKind.wrap, IntKind.bits, IntKind.signed]; omega
theorem xor32 (a b : BitVec 32) : Go.bits .xor .u32 (a.toNat : Int) (b.toNat : Int) = ((a ^^^ b).toNat : Int) := by
  show IntKind.u32.wrap (((BitVec.ofInt 32 (a.toNat : Int)) ^^^ (BitVec.ofInt 32 (b.toNat : Int))).toNat : Int) = _
  rw [u32_lt]; simp
theorem by8_nat {c : Int} (h : 0 ≤ c ∧ c < 256) : ((by8 c).toNat : Int) = c % 4294967296 := by
  obtain ⟨n, rfl⟩ := Int.eq_ofNat_of_zero_le h.1
  simp [by8]
theorem xor8 (a : BitVec 32) {c : Int} (h : 0 ≤ c ∧ c < 256) : Go.bits .xor .u32 (a.toNat : Int) (c % 4294967296) = ((a ^^^ by8 c).toNat : Int) := by
  rw [← by8_nat h, xor32]
theorem xorP (a : BitVec 32) : Go.bits .xor .u32 (a.toNat : Int) 3988292384 = ((a ^^^ pol).toNat : Int) := xor32 a pol
theorem notU (a : BitVec 32) : Go.bits .xor .u32 (-1) (a.toNat : Int) = ((BitVec.allOnes 32 ^^^ a).toNat : Int) := by
  show IntKind.u32.wrap (((BitVec.ofInt 32 (-1)) ^^^ (BitVec.ofInt 32 (a.toNat : Int))).toNat : Int) = _
  rw [u32_lt]
  have : BitVec.ofInt 32 (-1) = BitVec.allOnes 32 := by decide
  rw [this]; simp
theorem lsb (a : BitVec 32) : a.getLsbD 0 = decide (a.toNat % 2 = 1) := by
  rw [BitVec.getLsbD, Nat.testBit_zero]
theorem and1 (a : BitVec 32) : Go.bits .and .u32 (a.toNat : Int) 1 = if a.getLsbD 0 then 1 else 0 := by
  show IntKind.u32.wrap (((BitVec.ofInt 32 (a.toNat : Int)) &&& (BitVec.ofInt 32 1)).toNat : Int) = _
  rw [u32_lt, BitVec.toNat_and]
  have h1 : (BitVec.ofInt 32 1).toNat = 2 ^ 1 - 1 := by decide
  have h2 : (BitVec.ofInt 32 (a.toNat : Int)).toNat = a.toNat := by simp
  rw [h1, h2, Nat.and_two_pow_sub_one_eq_mod, lsb]
  by_cases h : a.toNat % 2 = 1
  · simp [h]
  · have : a.toNat % 2 = 0 := by omega
    simp [this]
theorem half (a : BitVec 32) : (a.toNat : Int) / (2 : Int) = ((a >>> 1).toNat : Int) := by
  rw [BitVec.toNat_ushiftRight, Nat.shiftRight_eq_div_pow]; simp
theorem rnd_yes {a : BitVec 32} (h : a.getLsbD 0 = true) : rnd a = (a >>> 1) ^^^ pol := by unfold rnd; rw [h]; simp
theorem rnd_no {a : BitVec 32} (h : a.getLsbD 0 = false) : rnd a = a >>> 1 := by unfold rnd; rw [h]; simp
theorem w64 {i : Int} (h0 : -1000 ≤ i) (h : i ≤ 140737488355328) : wrap64 i = i := by unfold wrap64; omega
/-- The eight rounds of a byte. -/
theorem sum_l1 (d : Nat) : ∀ (k : Nat) (r : BitVec 32) (xs : List Int) (n at_ i : Int), 0 ≤ i → i + d = 8 → 0 ≤ at_ → at_ ≤ 140737488351232 →
    sum_Sum.l1 (k + d + 1) (r.toNat : Int) xs n at_ i = sum_Sum.l0 k ((rn d r).toNat : Int) xs n (at_ + 1) := by
  induction d with
  | zero =>
    intro k r xs n at_ i h0 h1 h2 h3
    simp only [sum_Sum.l1]
    rw [if_neg (by omega), w64 (by omega) (by omega)]
    rfl
  | succ d ih =>
    intro k r xs n at_ i h0 h1 h2 h3
    rw [show k + (d + 1) + 1 = (k + d + 1) + 1 by omega, sum_Sum.l1]
    rw [if_pos (by omega), and1, half, xorP, w64 (i := i + 1) (by omega) (by omega)]
    cases h : r.getLsbD 0 with
    | true =>
      rw [if_pos rfl, if_pos rfl, ← rnd_yes h, ih k (rnd r) xs n at_ (i + 1) (by omega) (by omega) h2 h3]
      rfl
    | false =>
      rw [if_neg (by simp), ← rnd_no h, ih k (rnd r) xs n at_ (i + 1) (by omega) (by omega) h2 h3]
      rfl
theorem sum_l0 (xs : List Int) (hx : ∀ x ∈ xs, 0 ≤ x ∧ x < 256) (hn : xs.length ≤ 140737488351232) (d : Nat) : ∀ (k : Nat) (r : BitVec 32) (i : Nat), i + d = xs.length → 10 * d + 1 ≤ k →
    sum_Sum.l0 k (r.toNat : Int) xs (xs.length : Int) (i : Int) = some ((BitVec.allOnes 32 ^^^ crc r (xs.drop i)).toNat : Int) := by
  induction d with
  | zero =>
    intro k r i h hk
    obtain ⟨k, rfl⟩ : ∃ m, k = m + 1 := ⟨k - 1, by omega⟩
    simp only [sum_Sum.l0]
    rw [if_neg (by omega), notU, List.drop_of_length_le (by omega)]
    rfl
  | succ d ih =>
    intro k r i h hk
    obtain ⟨k, rfl⟩ : ∃ m, k = m + 10 := ⟨k - 10, by omega⟩
    have hi : i < xs.length := by omega
    have hr : rd xs (i : Int) = xs[i] := by simp [rd, hi]
    simp only [sum_Sum.l0]
    rw [if_pos (by omega), if_pos (by omega), if_pos (by omega), hr, xor8 r (hx _ (List.getElem_mem hi)), sum_l1 8 k _ xs _ _ 0 (by omega) (by omega) (by omega) (by omega)]
    have := ih k (rn 8 (r ^^^ by8 xs[i])) (i + 1) (by omega) (by omega)
    rw [show ((i + 1 : Nat) : Int) = (i : Int) + 1 by omega] at this
    rw [this, List.drop_eq_getElem_cons hi]
    rfl
/-- The sum of bytes. -/
def sumOf (xs : List Int) : Int := ((BitVec.allOnes 32 ^^^ crc (BitVec.allOnes 32) xs).toNat : Int)
theorem sum_eq (xs : List Int) (hx : ∀ x ∈ xs, 0 ≤ x ∧ x < 256) (hn : xs.length ≤ 140737488351232) (k : Nat) (hk : 10 * xs.length + 1 ≤ k) : sum_Sum.f k xs = some (sumOf xs) := by
  unfold sum_Sum.f
  have := sum_l0 xs hx hn xs.length k (BitVec.allOnes 32) 0 (by omega) hk
  exact this
theorem wf_u8 {n : Int} (h : (Lit.int .u8 n).wf = true) : 0 ≤ n ∧ n < 256 := by
  simp [Lit.wf, IntKind.min, IntKind.max, IntKind.signed, IntKind.bits] at h; omega
end Go.Proofs.Ytochnokfcfmgnaa.Pure
end

section
/- The contracts of pages.Pack and pages.Unpack, by hand. -/
namespace Go.Proofs.Ytochnokfcfmgnaa.Hand
open Go.RowKit Go.Proofs.Ytochnokfcfmgnaa.Mem Go.Proofs.Ytochnokfcfmgnaa.Pure Go.Proofs.Ytochnokfcfmgnaa.PShadowCrashes Go.Proofs.YtochnokfcfmgnaaW.PrintWords
set_option linter.unusedVariables false
set_option linter.unusedSimpArgs false

/-- A row in the midst of a block that is known whole, as a row that is read. -/
theorem C_of_blk {w : World} {g o n : Nat} {t : TypeId} {k : IntKind} {xs : List Int} (hb : Blk w g t (icells k xs)) (h : o + n ≤ xs.length) (hx : xs.length ≤ 9223372036854775807) : (Kd.int k).C w (some ⟨g, o, none⟩) n ((xs.drop o).take n) := by
  have hl : ((xs.drop o).take n).length = n := by simp; omega
  refine ⟨hl, by omega, fun _ => ⟨_, rfl, fun j p hj => ⟨[.int k p], rfl, rfl, fun i u hu => ?_⟩⟩⟩
  match i, hu with
  | 0, hu =>
    simp at hu
    subst hu
    rw [add_flat, show (Kd.int k).sz = 1 from rfl, show o + (j * 1 + 0) = o + j by omega]
    have hjn : j < n := by
      have := (List.getElem?_eq_some_iff.1 hj).1
      omega
    rw [List.getElem?_take, if_pos hjn, List.getElem?_drop] at hj
    exact hb.cell_at _ _ (by simp [icells, hj])
theorem R_of_blk {w : World} {g base : Nat} {t : TypeId} {k : IntKind} {xs : List Int} {ok : Nat → Prop} (hb : Blk w g t (icells k xs)) (hg : base ≤ g) (hx : xs.length ≤ 9223372036854775807) (hok : ok g) :
    (Kd.int k).R t w base ok (.slice (some ⟨g, 0, none⟩) xs.length xs.length) xs := by
  refine Kd.R_of_own ⟨by simp [encs], .inr ⟨g, xs.length, (icells k xs).toArray, rfl, hg, hb, Nat.le_refl _, by unfold maxLen; omega, by simp [icells], by rw [Nat.mul_one]; exact List.take_of_length_le (by simp [icells])⟩⟩ (fun k hk => ?_)
  have : g = k := by simpa [Value.ownBlock] using hk
  subst this
  exact hok
theorem sum_any (A : Option Addr) (n c : Nat) (xs : List Int) (w : World) (hr : (Kd.int .u8).C w A n xs) (hc : n ≤ c) (hx : ∀ x ∈ xs, 0 ≤ x ∧ x < 256) (hn : xs.length ≤ 140737488351232) :
    Calls Try.prog 90 #[.slice A n c] w fun e w' => e = .returned (.int .u32 (sumOf xs)) ∧ Drawn0 w w' := by
  obtain rfl : xs.length = n := hr.1
  exact sum_Sum.calls (10 * xs.length + 1) A c xs (sumOf xs) w hr hc (sum_eq xs hx hn _ (Nat.le_refl _))
theorem info5 : (Try.prog.info? 5).map (fun i => (i.zero, i.size, i.bytes)) = some (some (.int .u8 0), 1, 1) := by kernel_rfl

def zeros (n : Nat) : List Int := List.replicate n 0
theorem zeros_length (n : Nat) : (zeros n).length = n := by simp [zeros]
/-- What stands behind the sum. -/
def restOf (id : Int) (data : List Int) : List Int := le32 id ++ (le32 data.length ++ (data ++ zeros (116 - data.length)))
def packed (id : Int) (data : List Int) : List Int := le32 (sumOf (restOf id data)) ++ restOf id data

theorem made_zeros (n : Nat) : madeCells #[.int .u8 0] n = (icells .u8 (zeros n)).toArray := by
  apply Array.ext
  · simp [madeCells, icells, zeros]
  · intro i h1 h2
    simp [madeCells, icells, zeros]
    rw [Nat.mod_one]; rfl
theorem make_zeros (n : Nat) (hn : n ≤ 65536) (w : World) : (Instr.makeSlice 23 (.int .i64 (n : Int)) (.int .i64 (n : Int))).run Try.prog w = .ok (.slice (some ⟨w.heap.size, 0, none⟩) n n) (w.alloc (.cells (icells .u8 (zeros n)).toArray 5)) := by
  have := run_make_row' (P := Try.prog) 23 5 (.int .u8 0) 1 Try.underlying23 info5 rfl .i64 .i64 n (by omega) (by omega) w
  rw [made_zeros] at this
  exact this
theorem make128 (w : World) : (Instr.makeSlice 23 (.int .i64 128) (.int .i64 128)).run Try.prog w = .ok (.slice (some ⟨w.heap.size, 0, none⟩) 128 128) (w.alloc (.cells (icells .u8 (zeros 128)).toArray 5)) := make_zeros 128 (by omega) w

theorem sumOf_range (xs : List Int) : 0 ≤ sumOf xs ∧ sumOf xs < 4294967296 := by
  unfold sumOf
  have := (BitVec.allOnes 32 ^^^ Crc.crc (BitVec.allOnes 32) xs).isLt
  omega

theorem splice_mid {α : Type} (a b c d : List α) (o : Nat) (ho : o = a.length) (h : d.length = b.length) : splice (a ++ (b ++ c)) o d = a ++ (d ++ c) := by
  subst ho
  unfold splice
  rw [List.take_left, h, ← List.append_assoc a b c, ← List.length_append, List.drop_left]
theorem zeros_add (m n : Nat) : zeros (m + n) = zeros m ++ zeros n := by simp [zeros]
theorem laid (id : Int) (data : List Int) (h : data.length ≤ 116) : splice (splice (splice (zeros 128) 4 (le32 id)) 8 (le32 data.length)) 12 data = zeros 4 ++ restOf id data := by
  have h0 : zeros 128 = zeros 4 ++ (zeros 4 ++ (zeros 4 ++ (zeros data.length ++ zeros (116 - data.length)))) := by
    rw [← zeros_add, show data.length + (116 - data.length) = 116 by omega, ← zeros_add, ← zeros_add, ← zeros_add]
  rw [h0, splice_mid (zeros 4) (zeros 4) _ (le32 id) 4 rfl rfl, ← List.append_assoc, splice_mid (zeros 4 ++ le32 id) (zeros 4) _ (le32 data.length) 8 rfl rfl, ← List.append_assoc,
    splice_mid ((zeros 4 ++ le32 id) ++ le32 data.length) (zeros data.length) _ data 12 rfl (by simp [zeros_length])]
  simp [restOf, List.append_assoc]
theorem rest_length (id : Int) (data : List Int) (h : data.length ≤ 116) : (restOf id data).length = 124 := by simp [restOf, le32, zeros_length]; omega
theorem byteN_range (a : Int) (k : Nat) : 0 ≤ byteN a k ∧ byteN a k < 256 := by unfold byteN; omega
theorem le32_bytes (a : Int) : ∀ x ∈ le32 a, 0 ≤ x ∧ x < 256 := by
  intro x hx
  simp only [le32, List.mem_cons, List.not_mem_nil, or_false] at hx
  rcases hx with rfl | rfl | rfl | rfl <;> exact byteN_range _ _
theorem zeros_bytes (n : Nat) : ∀ x ∈ zeros n, 0 ≤ x ∧ x < 256 := by
  intro x hx
  rw [List.eq_of_mem_replicate hx]
  omega
theorem rest_bytes (id : Int) (data : List Int) (hd : ∀ x ∈ data, 0 ≤ x ∧ x < 256) : ∀ x ∈ restOf id data, 0 ≤ x ∧ x < 256 := by
  intro x hx
  simp only [restOf, List.mem_append] at hx
  rcases hx with h | h | h | h
  · exact le32_bytes _ x h
  · exact le32_bytes _ x h
  · exact hd x h
  · exact zeros_bytes _ x h
theorem laid_cut (id : Int) (data : List Int) (h : data.length ≤ 116) : ((zeros 4 ++ restOf id data).drop 4).take 124 = restOf id data := by
  have e : (zeros 4 ++ restOf id data).drop 4 = restOf id data := List.drop_left (l₁ := zeros 4)
  rw [e, List.take_of_length_le (by rw [rest_length id data h]; omega)]
theorem laid_last (id : Int) (data : List Int) (s : Int) : splice (zeros 4 ++ restOf id data) 0 (le32 s) = le32 s ++ restOf id data := by
  have := splice_mid [] (zeros 4) (restOf id data) (le32 s) 0 rfl rfl
  simpa using this
theorem C_cells {w : World} {A : Option Addr} {n : Nat} {k : IntKind} {xs : List Int} (h : (Kd.int k).C w A n xs) (hn : 0 < n) : ∃ ad, A = some ad ∧ ∀ j v, (icells k xs)[j]? = some v → w.cell? (ad.add j) = some v := by
  obtain ⟨ad, e, hc⟩ := h.2.2 hn
  refine ⟨ad, e, fun j v hv => ?_⟩
  simp only [icells, List.getElem?_map, Option.map_eq_some_iff] at hv
  obtain ⟨p, hp, rfl⟩ := hv
  obtain ⟨cs, hl, hk, hcell⟩ := hc j p hp
  have e2 : cs = [.int k p] := hk
  subst e2
  have := hcell 0 (.int k p) rfl
  rwa [show (Kd.int k).sz = 1 from rfl, show j * 1 + 0 = j by omega] at this

set_option maxRecDepth 100000 in
set_option maxHeartbeats 1000000 in
theorem pack_ok (id : Int) (A : Option Addr) (c : Nat) (data : List Int) (w : World) (hr : (Kd.int .u8).C w A data.length data) (hc : data.length ≤ c) (hid : 0 ≤ id) (hid2 : id < 4294967296) (hl : data.length ≤ 116) (hd : ∀ x ∈ data, 0 ≤ x ∧ x < 256) :
    Calls Try.prog 75 #[.int .u32 id, .slice A data.length c] w fun e w' => ∃ g, e = .returned (.tuple #[.slice (some ⟨g, 0, none⟩) 128 128, .int .i64 0]) ∧ w.heap.size ≤ g ∧ Blk w' g 5 (icells .u8 (packed id data)) ∧ Only w w' (fun _ => False) := by
  have HR := Lib.hid hr
  have HD := Lib.hid hd
  clear hr hd
  have hl' : (data.length : Int) ≤ 116 := by omega
  have hmk := make128
  have hz : (zeros 128).length = 128 := zeros_length _
  have b0 : Blk (w.alloc (.cells (icells .u8 (zeros 128)).toArray 5)) w.heap.size 5 (icells .u8 (zeros 128)) := Blk.new _ _ _
  have o0 : Only w (w.alloc (.cells (icells .u8 (zeros 128)).toArray 5)) (fun _ => False) := (Only.refl _ _).alloc _
  have HZ := Lib.hid hz
  have B0 := Lib.hid b0
  have O0 := Lib.hid o0
  clear hz b0 o0
  go_enter Try.func75, Try.ntmps75
  go_wp2_with fail
  refine (put32_any w.heap.size 4 124 124 (zeros 128) id _ B0.out (by rw [HZ.out]; omega) (by omega) hid hid2).mono ?_
  rintro e w1 ⟨rfl, b1, o1⟩
  have B1 := Lib.hid b1
  have O1 := Lib.hid (O0.out.step o1 (fun k hk e => absurd hk (by omega)))
  clear b1 o1 B0 O0
  go_wp2_with fail
  refine (put32_any w.heap.size 8 120 120 _ data.length _ B1.out (by rw [length_splice _ _ _ (by rw [HZ.out]; show 4 + 4 ≤ 128; omega), HZ.out]; omega) (by omega) (by omega) (by omega)).mono ?_
  rintro e w2 ⟨rfl, b2, o2⟩
  have B2 := Lib.hid b2
  have O2 := Lib.hid (O1.out.step o2 (fun k hk e => absurd hk (by omega)))
  clear b2 o2 B1 O1
  have B2r : Hid (w2.heap[w.heap.size]? = some (.cells (icells .u8 (splice (splice (zeros 128) 4 (le32 id)) 8 (le32 data.length))).toArray 5 (0, 0))) := B2.out
  go_wp2_with (refine wpList_copy_splice (o := ⟨some 24, _, _, _, _, _⟩) rfl (.tmp 22) (.tmp 23) 23 23 rfl 5 Try.underlying23 (by kernel_rfl) (some ⟨w.heap.size, 12, none⟩) A 116 116 data.length c rfl rfl w.heap.size 12 _ 5 B2r.out (icells .u8 data) ?c1 ?c2 ?c3 ?c4 w.heap.size w ?c5 ?c6 ?_)
  case c1 => rw [icells_length]; exact (Nat.min_eq_left hl).symm
  case c2 =>
    intro hp
    rw [icells_length] at hp
    obtain ⟨ad, rfl, hcell⟩ := C_cells (Kd.C_below HR.out O2.out.below_all) hp
    first | exact ⟨rfl, ad, rfl, hcell⟩ | exact ⟨ad, rfl, hcell⟩
  case c3 => rw [icells_length, icells_length, length_splice _ _ _ (by rw [length_splice _ _ _ (by rw [HZ.out]; show 4 + 4 ≤ 128; omega), HZ.out]; show 8 + 4 ≤ 128; omega), length_splice _ _ _ (by rw [HZ.out]; show 4 + 4 ≤ 128; omega), HZ.out]; omega
  case c4 => exact icells_one _ _
  case c5 => exact O2.out.below_all
  case c6 => omega
  intro w3 b3 o3
  have B3 : Hid (Blk w3 w.heap.size 5 (icells .u8 (zeros 4 ++ restOf id data))) := by
    have := b3.out
    rw [icells_splice, laid id data hl] at this
    exact Lib.hid this
  have O3 := Lib.hid (Only.of_below o3 (fun _ => False))
  clear b3 o3 B2 O2
  go_wp2_with fail
  have hl124 := rest_length id data hl
  have c3 := C_of_blk (o := 4) (n := 124) B3.out (by rw [List.length_append, hl124]; show 4 + 124 ≤ 4 + 124; omega) (by rw [List.length_append, hl124]; show 4 + 124 ≤ _; omega)
  rw [laid_cut id data hl] at c3
  refine (sum_any _ 124 124 (restOf id data) _ c3 (by omega) (rest_bytes id data HD.out) (by omega)).mono ?_
  rintro e w4 ⟨rfl, dr⟩
  clear hl124 c3
  have B4 := Lib.hid (B3.out.below dr.below B3.out.lt)
  have O4 := Lib.hid (O3.out.step (Only.of_below dr.below (fun _ => False)) (fun _ _ h => h))
  have hs := sumOf_range (restOf id data)
  have hs1 := hs.1
  have hs2 := hs.2
  clear hs dr B3 O3
  generalize hS : sumOf (restOf id data) = S at *
  have HS := Lib.hid hS
  clear hS
  go_wp2_with fail
  refine (put32_any w.heap.size 0 128 128 _ S _ B4.out (by rw [List.length_append, rest_length id data hl]; show 0 + 4 ≤ 4 + 124; omega) (by omega) hs1 hs2).mono ?_
  rintro e w5 ⟨rfl, b5, o5⟩
  have B5 := Lib.hid b5
  have O5 := Lib.hid (O4.out.step o5 (fun k hk e => absurd hk (by omega)))
  clear b5 o5 B4 O4
  go_wp2
  go_ret2
  refine ⟨w.heap.size, rfl, Nat.le_refl _, ?_, O5.out⟩
  have := B5.out
  rw [laid_last, ← HS.out] at this
  exact this
theorem pack_large (id : Int) (A : Option Addr) (n c : Nat) (w : World) (hl : 116 < n) (hn : n ≤ 9223372036854775807) :
    Calls Try.prog 75 #[.int .u32 id, .slice A n c] w fun e w' => e = .returned (.tuple #[.slice none 0 0, .int .i64 11]) ∧ w = w' := by
  have hl' : 116 < (n : Int) := by omega
  go_enter Try.func75, Try.ntmps75
  go_wp2
  go_ret2
  exact ⟨rfl, rfl⟩
end Go.Proofs.Ytochnokfcfmgnaa.Hand
end

section
/- The contract of pages.get32. -/
namespace Go.Proofs.Ytochnokfcfmgnaa.Hand
open Go.RowKit Go.Proofs.Ytochnokfcfmgnaa.Mem Go.Proofs.Ytochnokfcfmgnaa.Pure Go.Proofs.Ytochnokfcfmgnaa.PShadowCrashes Go.Proofs.YtochnokfcfmgnaaW.PrintWords
set_option linter.unusedVariables false
set_option linter.unusedSimpArgs false

theorem or_comm' (k : IntKind) (a b : Int) : Go.bits .or k a b = Go.bits .or k b a := by
  cases k <;> simp only [Go.bits] <;> rw [BitVec.or_comm]
theorem wraps_u32 (n : Int) (h0 : 0 ≤ n) (h1 : n < 2 ^ 32) : IntKind.u32.wrap n = n := by rw [IntKind.wrap_u32]; omega
theorem or32_8 (x y : Int) (hx : 0 ≤ x ∧ x < 256) (hy : 0 ≤ y ∧ y < 256) : Go.bits .or .u32 x (y * 256) = x + y * 256 := by
  rw [or_comm', bits_join .u32 32 (by decide) wraps_u32 8 (y * 256) x (by omega) (by omega) (by omega) hx.1 (by omega) (by omega)]; omega
theorem or32_16 (x y : Int) (hx : 0 ≤ x ∧ x < 65536) (hy : 0 ≤ y ∧ y < 256) : Go.bits .or .u32 x (y * 65536) = x + y * 65536 := by
  rw [or_comm', bits_join .u32 32 (by decide) wraps_u32 16 (y * 65536) x (by omega) (by omega) (by omega) hx.1 (by omega) (by omega)]; omega
theorem or32_24 (x y : Int) (hx : 0 ≤ x ∧ x < 16777216) (hy : 0 ≤ y ∧ y < 256) : Go.bits .or .u32 x (y * 16777216) = x + y * 16777216 := by
  rw [or_comm', bits_join .u32 32 (by decide) wraps_u32 24 (y * 16777216) x (by omega) (by omega) (by omega) hx.1 (by omega) (by omega)]; omega
theorem or32_all (x0 x1 x2 x3 : Int) (h0 : 0 ≤ x0 ∧ x0 < 256) (h1 : 0 ≤ x1 ∧ x1 < 256) (h2 : 0 ≤ x2 ∧ x2 < 256) (h3 : 0 ≤ x3 ∧ x3 < 256) :
    Go.bits .or .u32 (Go.bits .or .u32 (Go.bits .or .u32 x0 (x1 * 256)) (x2 * 65536)) (x3 * 16777216) = x0 + 256 * x1 + 65536 * x2 + 16777216 * x3 := by
  rw [or32_8 _ _ h0 h1, or32_16 _ _ (by omega) h2, or32_24 _ _ (by omega) h3]; omega
def ld32 (xs : List Int) : Int := xs.getD 0 0 + 256 * xs.getD 1 0 + 65536 * xs.getD 2 0 + 16777216 * xs.getD 3 0
theorem get32_any (ad : Addr) (n c : Nat) (x0 x1 x2 x3 : Int) (w : World) (h0 : w.cell? ad = some (.int .u8 x0)) (h1 : w.cell? (ad.add 1) = some (.int .u8 x1)) (h2 : w.cell? (ad.add 2) = some (.int .u8 x2)) (h3 : w.cell? (ad.add 3) = some (.int .u8 x3)) (hn : 4 ≤ n)
    (b0 : 0 ≤ x0) (b0' : x0 < 256) (b1 : 0 ≤ x1) (b1' : x1 < 256) (b2 : 0 ≤ x2) (b2' : x2 < 256) (b3 : 0 ≤ x3) (b3' : x3 < 256) :
    Calls Try.prog 91 #[.slice (some ad) n c] w fun e w' => e = .returned (.int .u32 (x0 + 256 * x1 + 65536 * x2 + 16777216 * x3)) ∧ ∃ m, w' = w.drewN m := by
  have hn0 : 0 < n := by omega
  simp only [Addr.add, Nat.reduceEqDiff, ↓reduceIte] at h1 h2 h3
  have hn1 : (1 : Int) < (n : Int) := by omega
  have hn2 : (2 : Int) < (n : Int) := by omega
  have hn3 : (3 : Int) < (n : Int) := by omega
  go_enter Try.func91, Try.ntmps91
  go_wp2
  go_quiet (fail)
  go_wp2
  go_ret
  exact ⟨by rw [or32_all _ _ _ _ ⟨b0, b0'⟩ ⟨b1, b1'⟩ ⟨b2, b2'⟩ ⟨b3, b3'⟩]; rfl, _, rfl⟩
theorem get32_row (A : Option Addr) (n c : Nat) (xs : List Int) (w : World) (hr : (Kd.int .u8).C w A n xs) (hn : 4 ≤ n) (hx : ∀ x ∈ xs, 0 ≤ x ∧ x < 256) :
    Calls Try.prog 91 #[.slice A n c] w fun e w' => e = .returned (.int .u32 (ld32 xs)) ∧ ∃ m, w' = w.drewN m := by
  have hl := hr.1
  obtain ⟨ad, rfl, hc⟩ := C_cells hr (by omega)
  have g : ∀ j, j < 4 → w.cell? (ad.add j) = some (.int .u8 (xs.getD j 0)) := fun j hj => hc j _ (icells_getD _ _ _ (by omega))
  have r : ∀ j, j < 4 → 0 ≤ xs.getD j 0 ∧ xs.getD j 0 < 256 := by
    intro j hj
    have : xs.getD j 0 = xs[j]'(by omega) := by simp [show j < xs.length by omega]
    rw [this]
    exact hx _ (List.getElem_mem _)
  have g0 := g 0 (by omega)
  rw [show ad.add 0 = ad from rfl] at g0
  exact get32_any ad n c _ _ _ _ w g0 (g 1 (by omega)) (g 2 (by omega)) (g 3 (by omega)) hn (r 0 (by omega)).1 (r 0 (by omega)).2 (r 1 (by omega)).1 (r 1 (by omega)).2 (r 2 (by omega)).1 (r 2 (by omega)).2 (r 3 (by omega)).1 (r 3 (by omega)).2
end Go.Proofs.Ytochnokfcfmgnaa.Hand
end

section
/- The contract of pages.Unpack, by hand. -/
namespace Go.Proofs.Ytochnokfcfmgnaa.Hand
open Go.RowKit Go.Proofs.Ytochnokfcfmgnaa.Mem Go.Proofs.Ytochnokfcfmgnaa.Pure Go.Proofs.Ytochnokfcfmgnaa.PShadowCrashes Go.Proofs.YtochnokfcfmgnaaW.PrintWords
set_option linter.unusedVariables false
set_option linter.unusedSimpArgs false

def unp (b : List Int) : Int × List Int × Int :=
  if b.length ≠ 128 then (0, [], 2)
  else if ld32 b ≠ sumOf (b.drop 4) ∨ 116 < ld32 (b.drop 8) then (0, [], 5)
  else if (b.drop (12 + (ld32 (b.drop 8)).toNat)).all (· == 0) = true then (ld32 (b.drop 4), (b.drop 12).take (ld32 (b.drop 8)).toNat, 0) else (0, [], 5)

theorem unpack_len (A : Option Addr) (n c : Nat) (w : World) (hl : n ≠ 128) (hn : n ≤ 9223372036854775807) :
    Calls Try.prog 76 #[.slice A n c] w fun e w' => e = .returned (.tuple #[.int .u32 0, .slice none 0 0, .int .i64 2]) ∧ w = w' := by
  have h1 : ((n : Int) != 128) = true := by rw [bne_iff_ne]; omega
  have h2 : ((n : Int) == 128) = false := by rw [beq_eq_false_iff_ne]; omega
  clear hl
  go_enter Try.func76, Try.ntmps76
  go_wp2
  go_ret3
  exact ⟨rfl, rfl⟩
theorem drawn_ex {w w' : World} (h : Drawn0 w w') : ∃ m, w' = w.drewN m := h.out
theorem drop_bytes {xs : List Int} (hx : ∀ x ∈ xs, 0 ≤ x ∧ x < 256) (k : Nat) : ∀ x ∈ xs.drop k, 0 ≤ x ∧ x < 256 := fun x h => hx x (List.mem_of_mem_drop h)
theorem ld32_range {xs : List Int} (hx : ∀ x ∈ xs, 0 ≤ x ∧ x < 256) : 0 ≤ ld32 xs ∧ ld32 xs < 4294967296 := by
  have r : ∀ j, 0 ≤ xs.getD j 0 ∧ xs.getD j 0 < 256 := by
    intro j
    rw [List.getD_eq_getElem?_getD]
    cases h : xs[j]? with
    | none => simp
    | some x => simpa using hx x (List.mem_of_getElem? h)
  have r0 := r 0
  have r1 := r 1
  have r2 := r 2
  have r3 := r 3
  unfold ld32
  omega
/-- The cut s[k:] of a row that is read. -/
theorem C_cut {w : World} {ad : Addr} {n : Nat} {xs : List Int} (h : (Kd.int .u8).C w (some ad) n xs) (k : Nat) (h0 : 0 < k) (hk : k < n) : (Kd.int .u8).C w (some ⟨ad.block, ad.off + k, none⟩) (n - k) (xs.drop k) := by
  have hl := h.1
  have := Kd.C_drop (k := Kd.int .u8) (c := n + k + 1) (m := k) (w := w) (A := some ad) (xs := xs) (by rw [hl]; exact h) (by omega) (by omega)
  rw [if_neg (by omega)] at this
  simp only [Option.map_some, show (Kd.int .u8).sz = 1 from rfl, Nat.mul_one, List.length_drop, hl] at this
  rwa [show ad.add k = ⟨ad.block, ad.off + k, none⟩ from by unfold Addr.add; rw [if_neg (by omega)]] at this

set_option maxRecDepth 100000 in
set_option maxHeartbeats 1000000 in
theorem unpack_sum (ad : Addr) (c : Nat) (b : List Int) (w : World) (hr : (Kd.int .u8).C w (some ad) 128 b) (hc : 128 ≤ c) (hb : ∀ x ∈ b, 0 ≤ x ∧ x < 256) (hbad : ld32 b ≠ sumOf (b.drop 4) ∨ 116 < ld32 (b.drop 8)) :
    Calls Try.prog 76 #[.slice (some ad) 128 c] w fun e w' => e = .returned (.tuple #[.int .u32 0, .slice none 0 0, .int .i64 5]) ∧ ∃ m, w' = w.drewN m := by
  have HR := Lib.hid hr
  have HB := Lib.hid hb
  have hl := hr.1
  have HL := Lib.hid hl
  have r8 := ld32_range (drop_bytes hb 8)
  have r80 := r8.1
  have r81 := r8.2
  have r4 := ld32_range (drop_bytes hb 4)
  clear r8
  have c8 : ∀ W : World, Calls Try.prog 91 #[.slice (some ⟨ad.block, ad.off + 8, none⟩) 120 (c - 8)] (w.drewN 0) fun e w' => e = .returned (.int .u32 (ld32 (b.drop 8))) ∧ ∃ m, w' = w.drewN m := fun W => get32_row _ 120 _ _ w (C_cut hr 8 (by omega) (by omega)) (by omega) (drop_bytes hb 8)
  have c0 : ∀ m, Calls Try.prog 91 #[.slice (some ad) 128 c] (w.drewN m) fun e w' => e = .returned (.int .u32 (ld32 b)) ∧ ∃ k, w' = (w.drewN m).drewN k := fun m => get32_row _ 128 _ _ _ (Kd.C_drewN hr m) (by omega) hb
  have cs : ∀ m, Calls Try.prog 90 #[.slice (some ⟨ad.block, ad.off + 4, none⟩) 124 (c - 4)] (w.drewN m) fun e w' => e = .returned (.int .u32 (sumOf (b.drop 4))) ∧ ∃ k, w' = (w.drewN m).drewN k := fun m => (sum_any _ 124 _ _ _ (C_cut (Kd.C_drewN hr m) 4 (by omega) (by omega)) (by omega) (drop_bytes hb 4) (by rw [List.length_drop]; omega)).mono fun e w' ⟨h1, h2⟩ => ⟨h1, drawn_ex h2⟩
  have C8 := Lib.hid (c8 w)
  have C0 := Lib.hid c0
  have CS := Lib.hid cs
  clear hr hb hl c8 c0 cs HR
  generalize hn : ld32 (b.drop 8) = n at *
  generalize hg : ld32 b = g at *
  generalize hs : sumOf (b.drop 4) = s at *
  clear hn hg hs
  by_cases h1 : g = s
  · have h2 : 116 < n := hbad.resolve_left (fun h => h h1)
    have t1 : (g != s) = false := by rw [h1]; simp
    clear h1 hbad
    go_enter Try.func76, Try.ntmps76
    go_wp2_with fail
    refine C8.out.mono ?_
    rintro e w1 ⟨rfl, m1, hw1⟩
    have HW := Lib.hid hw1
    have C0W : Hid (∀ m, Calls Try.prog 91 #[.slice (some ad) 128 c] (w1.drewN m) fun e w' => e = .returned (.int .u32 g) ∧ ∃ k, w' = (w1.drewN m).drewN k) := Lib.hid (fun m => by rw [hw1, World.drewN_drewN]; exact C0.out _)
    have CSW : Hid (∀ m, Calls Try.prog 90 #[.slice (some ⟨ad.block, ad.off + 4, none⟩) 124 (c - 4)] (w1.drewN m) fun e w' => e = .returned (.int .u32 s) ∧ ∃ k, w' = (w1.drewN m).drewN k) := Lib.hid (fun m => by rw [hw1, World.drewN_drewN]; exact CS.out _)
    clear hw1 C0 CS
    go_wp2_with fail
    go_quiet (first | (go_at_call 91; exact Calls.quiet_of (C0W.out _)) | (go_at_call 90; exact Calls.quiet_of (CSW.out _)))
    go_wp2
    go_ret3
    exact ⟨rfl, _, by rw [HW.out, World.drewN_drewN]⟩
  · have t1 : (g != s) = true := by simpa using h1
    clear h1 hbad
    go_enter Try.func76, Try.ntmps76
    go_wp2_with fail
    refine C8.out.mono ?_
    rintro e w1 ⟨rfl, m1, hw1⟩
    have HW := Lib.hid hw1
    have C0W : Hid (∀ m, Calls Try.prog 91 #[.slice (some ad) 128 c] (w1.drewN m) fun e w' => e = .returned (.int .u32 g) ∧ ∃ k, w' = (w1.drewN m).drewN k) := Lib.hid (fun m => by rw [hw1, World.drewN_drewN]; exact C0.out _)
    have CSW : Hid (∀ m, Calls Try.prog 90 #[.slice (some ⟨ad.block, ad.off + 4, none⟩) 124 (c - 4)] (w1.drewN m) fun e w' => e = .returned (.int .u32 s) ∧ ∃ k, w' = (w1.drewN m).drewN k) := Lib.hid (fun m => by rw [hw1, World.drewN_drewN]; exact CS.out _)
    clear hw1 C0 CS
    go_wp2_with fail
    go_quiet (first | (go_at_call 91; exact Calls.quiet_of (C0W.out _)) | (go_at_call 90; exact Calls.quiet_of (CSW.out _)))
    go_wp2
    go_ret3
    exact ⟨rfl, _, by rw [HW.out, World.drewN_drewN]⟩
theorem zeros_not {T : List Int} (h : ¬ T.all (· == 0) = true) (k : Nat) (hz : ∀ j, j < k → T.getD j 0 = 0) : k < T.length := by
  rcases Nat.lt_or_ge k T.length with h1 | h1
  · exact h1
  · exact (h (List.all_eq_true.2 (fun x hx => by
      obtain ⟨j, hj, rfl⟩ := List.getElem_of_mem hx
      have := hz j (by omega)
      simpa [hj] using this))).elim
theorem zeros_at {T : List Int} (h : T.all (· == 0) = true) (k : Nat) (hk : k < T.length) : T.getD k 0 = 0 := by
  have := List.all_eq_true.1 h T[k] (List.getElem_mem hk)
  simpa [hk] using this
theorem getD_drop (b : List Int) (o k : Nat) : (b.drop o).getD k 0 = b.getD (o + k) 0 := by
  rw [List.getD_eq_getElem?_getD, List.getElem?_drop, List.getD_eq_getElem?_getD]

set_option maxRecDepth 100000 in
set_option maxHeartbeats 1000000 in
theorem unpack_dirt (ad : Addr) (c : Nat) (b : List Int) (w : World) (hr : (Kd.int .u8).C w (some ad) 128 b) (hc : 128 ≤ c) (hb : ∀ x ∈ b, 0 ≤ x ∧ x < 256) (hsum : ld32 b = sumOf (b.drop 4)) (hn : ld32 (b.drop 8) ≤ 116) (hz : ¬ (b.drop (12 + (ld32 (b.drop 8)).toNat)).all (· == 0) = true) :
    Calls Try.prog 76 #[.slice (some ad) 128 c] w fun e w' => e = .returned (.tuple #[.int .u32 0, .slice none 0 0, .int .i64 5]) ∧ ∃ m, w' = w.drewN m := by
  have HR := Lib.hid hr
  have HB := Lib.hid hb
  have hl := hr.1
  have HL := Lib.hid hl
  have r8 := ld32_range (drop_bytes hb 8)
  have r80 := r8.1
  clear r8
  have c8 : ∀ W : World, Calls Try.prog 91 #[.slice (some ⟨ad.block, ad.off + 8, none⟩) 120 (c - 8)] (w.drewN 0) fun e w' => e = .returned (.int .u32 (ld32 (b.drop 8))) ∧ ∃ m, w' = w.drewN m := fun W => get32_row _ 120 _ _ w (C_cut hr 8 (by omega) (by omega)) (by omega) (drop_bytes hb 8)
  have c0 : ∀ m, Calls Try.prog 91 #[.slice (some ad) 128 c] (w.drewN m) fun e w' => e = .returned (.int .u32 (ld32 b)) ∧ ∃ k, w' = (w.drewN m).drewN k := fun m => get32_row _ 128 _ _ _ (Kd.C_drewN hr m) (by omega) hb
  have cs : ∀ m, Calls Try.prog 90 #[.slice (some ⟨ad.block, ad.off + 4, none⟩) 124 (c - 4)] (w.drewN m) fun e w' => e = .returned (.int .u32 (sumOf (b.drop 4))) ∧ ∃ k, w' = (w.drewN m).drewN k := fun m => (sum_any _ 124 _ _ _ (C_cut (Kd.C_drewN hr m) 4 (by omega) (by omega)) (by omega) (drop_bytes hb 4) (by rw [List.length_drop]; omega)).mono fun e w' ⟨h1, h2⟩ => ⟨h1, drawn_ex h2⟩
  have C8 := Lib.hid (c8 w)
  have C0 := Lib.hid c0
  have CS := Lib.hid cs
  have t1 : (ld32 b != sumOf (b.drop 4)) = false := by rw [hsum]; simp
  obtain ⟨N, hN⟩ : ∃ N : Nat, ld32 (b.drop 8) = N := ⟨(ld32 (b.drop 8)).toNat, by omega⟩
  rw [hN] at hz hn C8
  rw [Int.toNat_natCast] at hz
  have hN115 : N ≤ 115 := by
    have := zeros_not hz 0 (fun j hj => absurd hj (by omega))
    rw [List.length_drop, hl] at this
    omega
  have hN115' : (N : Int) ≤ 115 := by omega
  have hcN : 12 + N < c := by omega
  have hcell := (C_cells hr (by omega))
  obtain ⟨ad', had, hcell⟩ := hcell
  obtain rfl : ad = ad' := by injection had
  have hcell' : ∀ j, j < 128 → w.cell? (ad.add j) = some (.int .u8 (b.getD j 0)) := fun j hj => hcell j _ (icells_getD _ _ _ (by omega))
  have HC := Lib.hid hcell'
  have HZ := Lib.hid hz
  clear hr hb hl c8 c0 cs HR hsum hz hN r80 had hcell hcell'
  generalize hg : ld32 b = g at *
  generalize hs : sumOf (b.drop 4) = s at *
  clear hg hs
  go_enter Try.func76, Try.ntmps76
  go_wp2_with fail
  refine C8.out.mono ?_
  rintro e w1 ⟨rfl, m1, hw1⟩
  have HW := Lib.hid hw1
  have C0W : Hid (∀ m, Calls Try.prog 91 #[.slice (some ad) 128 c] (w1.drewN m) fun e w' => e = .returned (.int .u32 g) ∧ ∃ k, w' = (w1.drewN m).drewN k) := Lib.hid (fun m => by rw [hw1, World.drewN_drewN]; exact C0.out _)
  have CSW : Hid (∀ m, Calls Try.prog 90 #[.slice (some ⟨ad.block, ad.off + 4, none⟩) 124 (c - 4)] (w1.drewN m) fun e w' => e = .returned (.int .u32 s) ∧ ∃ k, w' = (w1.drewN m).drewN k) := Lib.hid (fun m => by rw [hw1, World.drewN_drewN]; exact CS.out _)
  clear hw1 C0 CS
  go_wp2_with fail
  go_quiet (first | (go_at_call 91; exact Calls.quiet_of (C0W.out _)) | (go_at_call 90; exact Calls.quiet_of (CSW.out _)))
  go_wp2
  go_loopg [29] (116 - N) (fun m i wr => ∃ k : Nat, i = .int .i64 k ∧ k ≤ 116 - N ∧ Aside1 (k + m = 116 - N ∧ (∃ q, wr = w.drewN q) ∧ ∀ j, j < k → (b.drop (12 + N)).getD j 0 = 0))
  case atStart => exact ⟨0, rfl, Nat.zero_le _, ⟨by omega, ⟨_, by rw [HW.out, World.drewN_drewN]⟩, fun j hj => absurd hj (by omega)⟩⟩
  case round =>
    obtain ⟨k, rfl, hk116, hA⟩ := hrel
    obtain ⟨hm, ⟨q, hq⟩, hzs⟩ := hA.out
    have hk : k < 116 - N := by
      have := zeros_not HZ.out k hzs
      rw [List.length_drop, HL.out] at this
      omega
    have hx := HC.out (12 + N + k) (by omega)
    rw [← add_of_add] at hx
    have hxq : wr.cell? ((ad.add (12 + N)).add k) = some (.int .u8 (b.getD (12 + N + k) 0)) := by rw [hq]; exact hx
    have hbr : 0 ≤ b.getD (12 + N + k) 0 ∧ b.getD (12 + N + k) 0 < 256 := by
      have e : b.getD (12 + N + k) 0 = b[12 + N + k]'(by rw [HL.out]; omega) := by simp [HL.out, show 12 + N + k < 128 by omega]
      rw [e]; exact HB.out _ (List.getElem_mem _)
    have hgd := getD_drop b (12 + N) k
    have GD := Lib.hid hgd
    have Q := Lib.hid hq
    have ZS := Lib.hid hzs
    clear hgd hq hzs hA hx
    generalize hx : b.getD (12 + N + k) 0 = x at *
    have HX := Lib.hid hx
    clear hx
    have hk1 : (k : Int) < ((128 - (12 + N) : Nat) : Int) := by omega
    by_cases hx0 : x = 0
    · subst hx0
      go_wp2
      go_roundg (gk - 1)
      case measure => omega
      case rel => exact ⟨k + 1, by go_num, by omega, ⟨by omega, ⟨q, Q.out⟩, fun j hj => by
        by_cases e : j = k
        · subst e; exact GD.out
        · exact ZS.out j (by omega)⟩⟩
    · have hb1 : (x != 0) = true := by simpa using hx0
      clear hx0
      go_wp2
      go_ret3
      exact ⟨rfl, q, Q.out⟩
/-- The cells behind 12, as a row to be copied. -/
theorem mid_cells {w : World} {ad : Addr} {b : List Int} (h : ∀ (j : Nat), j < 128 → w.cell? (ad.add j) = some (.int .u8 (b.getD j 0))) (hl : b.length = 128) (N : Nat) (hN : N ≤ 116) (j : Nat) (v : Value) (hv : (icells .u8 ((b.drop 12).take N))[j]? = some v) : w.cell? ((ad.add 12).add j) = some v := by
  have hj : j < N := by
    have := (List.getElem?_eq_some_iff.1 hv).1
    rw [icells_length, List.length_take] at this
    omega
  rw [add_of_add, h _ (by omega), ← hv]
  simp only [icells, List.getElem?_map, List.getElem?_take, if_pos hj, List.getElem?_drop]
  simp [hl, show 12 + j < 128 by omega]
theorem mid_length {b : List Int} (hl : b.length = 128) (N : Nat) (hN : N ≤ 116) : ((b.drop 12).take N).length = N := by simp; omega
theorem makeN (n : Nat) (hn : n ≤ 65536) (w : World) : (Instr.makeSlice 23 (.int .u32 (n : Int)) (.int .u32 (n : Int))).run Try.prog w = .ok (.slice (some ⟨w.heap.size, 0, none⟩) n n) (w.alloc (.cells (icells .u8 (zeros n)).toArray 5)) := by
  have := run_make_row' (P := Try.prog) 23 5 (.int .u8 0) 1 Try.underlying23 info5 rfl .u32 .u32 n (by omega) (by omega) w
  rw [made_zeros] at this
  exact this

set_option maxRecDepth 100000 in
set_option maxHeartbeats 2000000 in
theorem unpack_good (ad : Addr) (c : Nat) (b : List Int) (w : World) (hr : (Kd.int .u8).C w (some ad) 128 b) (hc : 128 ≤ c) (hb : ∀ x ∈ b, 0 ≤ x ∧ x < 256) (hsum : ld32 b = sumOf (b.drop 4)) (hn : ld32 (b.drop 8) ≤ 116) (hz : (b.drop (12 + (ld32 (b.drop 8)).toNat)).all (· == 0) = true) (hcN : 12 + (ld32 (b.drop 8)).toNat < c) :
    Calls Try.prog 76 #[.slice (some ad) 128 c] w fun e w' => ∃ g, e = .returned (.tuple #[.int .u32 (ld32 (b.drop 4)), .slice (some ⟨g, 0, none⟩) (ld32 (b.drop 8)).toNat (ld32 (b.drop 8)).toNat, .int .i64 0]) ∧ w.heap.size ≤ g ∧ Blk w' g 5 (icells .u8 ((b.drop 12).take (ld32 (b.drop 8)).toNat)) ∧ Only w w' (fun _ => False) := by
  have HR := Lib.hid hr
  have HB := Lib.hid hb
  have hl := hr.1
  have HL := Lib.hid hl
  have r8 := ld32_range (drop_bytes hb 8)
  have r80 := r8.1
  clear r8
  have c8 : ∀ W : World, Calls Try.prog 91 #[.slice (some ⟨ad.block, ad.off + 8, none⟩) 120 (c - 8)] (w.drewN 0) fun e w' => e = .returned (.int .u32 (ld32 (b.drop 8))) ∧ ∃ m, w' = w.drewN m := fun W => get32_row _ 120 _ _ w (C_cut hr 8 (by omega) (by omega)) (by omega) (drop_bytes hb 8)
  have c0 : ∀ m, Calls Try.prog 91 #[.slice (some ad) 128 c] (w.drewN m) fun e w' => e = .returned (.int .u32 (ld32 b)) ∧ ∃ k, w' = (w.drewN m).drewN k := fun m => get32_row _ 128 _ _ _ (Kd.C_drewN hr m) (by omega) hb
  have cs : ∀ m, Calls Try.prog 90 #[.slice (some ⟨ad.block, ad.off + 4, none⟩) 124 (c - 4)] (w.drewN m) fun e w' => e = .returned (.int .u32 (sumOf (b.drop 4))) ∧ ∃ k, w' = (w.drewN m).drewN k := fun m => (sum_any _ 124 _ _ _ (C_cut (Kd.C_drewN hr m) 4 (by omega) (by omega)) (by omega) (drop_bytes hb 4) (by rw [List.length_drop]; omega)).mono fun e w' ⟨h1, h2⟩ => ⟨h1, drawn_ex h2⟩
  have C8 := Lib.hid (c8 w)
  have C0 := Lib.hid c0
  have CS := Lib.hid cs
  have t1 : (ld32 b != sumOf (b.drop 4)) = false := by rw [hsum]; simp
  obtain ⟨N, hN⟩ : ∃ N : Nat, ld32 (b.drop 8) = N := ⟨(ld32 (b.drop 8)).toNat, by omega⟩
  rw [hN] at hz hn C8 hcN ⊢
  rw [Int.toNat_natCast] at hz hcN ⊢
  obtain ⟨ad', had, hcell⟩ := C_cells hr (by omega)
  obtain rfl : ad = ad' := by injection had
  have hcell' : ∀ j, j < 128 → w.cell? (ad.add j) = some (.int .u8 (b.getD j 0)) := fun j hj => hcell j _ (icells_getD _ _ _ (by omega))
  have HC := Lib.hid hcell'
  have HZ := Lib.hid hz
  have HR2 := Lib.hid (C_cut hr 4 (by omega) (by omega))
  have HB4 := Lib.hid (drop_bytes hb 4)
  have hNn : N ≤ 116 := by omega
  clear hr hb hl c8 c0 cs HR hsum hz hN r80 had hcell hcell'
  generalize hg : ld32 b = g at *
  generalize hs : sumOf (b.drop 4) = s at *
  clear hg hs
  have hmk := makeN N (by omega)
  have hmk0 : ∀ w : World, (Instr.makeSlice 23 (.int .u32 0) (.int .u32 0)).run Try.prog w = .ok (.slice (some ⟨w.heap.size, 0, none⟩) 0 0) (w.alloc (.cells (icells .u8 (zeros 0)).toArray 5)) := makeN 0 (by omega)
  go_enter Try.func76, Try.ntmps76
  go_wp2_with fail
  refine C8.out.mono ?_
  rintro e w1 ⟨rfl, m1, hw1⟩
  have HW := Lib.hid hw1
  have C0W : Hid (∀ m, Calls Try.prog 91 #[.slice (some ad) 128 c] (w1.drewN m) fun e w' => e = .returned (.int .u32 g) ∧ ∃ k, w' = (w1.drewN m).drewN k) := Lib.hid (fun m => by rw [hw1, World.drewN_drewN]; exact C0.out _)
  have CSW : Hid (∀ m, Calls Try.prog 90 #[.slice (some ⟨ad.block, ad.off + 4, none⟩) 124 (c - 4)] (w1.drewN m) fun e w' => e = .returned (.int .u32 s) ∧ ∃ k, w' = (w1.drewN m).drewN k) := Lib.hid (fun m => by rw [hw1, World.drewN_drewN]; exact CS.out _)
  clear hw1 C0 CS
  go_wp2_with fail
  go_quiet (first | (go_at_call 91; exact Calls.quiet_of (C0W.out _)) | (go_at_call 90; exact Calls.quiet_of (CSW.out _)))
  clear C0W CSW
  go_wp2
  go_loopg [29] (116 - N) (fun m i wr => ∃ k : Nat, i = .int .i64 k ∧ k ≤ 116 - N ∧ Aside1 (k + m = 116 - N ∧ (∃ q, wr = w.drewN q)))
  case atStart => exact ⟨0, rfl, Nat.zero_le _, ⟨by omega, ⟨_, by rw [HW.out, World.drewN_drewN]⟩⟩⟩
  case round =>
    obtain ⟨k, rfl, hk116, hA⟩ := hrel
    obtain ⟨hm, ⟨q, hq⟩⟩ := hA.out
    by_cases hk : k < 116 - N
    · have hx := HC.out (12 + N + k) (by omega)
      have hv := zeros_at HZ.out k (by rw [List.length_drop, HL.out]; omega)
      rw [getD_drop] at hv
      rw [← add_of_add, hv] at hx
      have hxq : wr.cell? ((ad.add (12 + N)).add k) = some (.int .u8 0) := by rw [hq]; exact hx
      have Q := Lib.hid hq
      clear hq hA hx hv
      have hk1 : (k : Int) < ((128 - (12 + N) : Nat) : Int) := by omega
      clear hmk hmk0
      go_wp2
      go_roundg (gk - 1)
      case measure => omega
      case rel => exact ⟨k + 1, by go_num, by omega, ⟨by omega, ⟨q, Q.out⟩⟩⟩
    · obtain rfl : k = 116 - N := by omega
      have Q := Lib.hid hq
      clear hq hA hm
      have o1 : Only w (wr.alloc (.cells (icells .u8 (zeros N)).toArray 5)) (fun _ => False) := by rw [Q.out]; exact ((Only.refl _ _).drewN _).alloc _
      have b1 : Blk (wr.alloc (.cells (icells .u8 (zeros N)).toArray 5)) wr.heap.size 5 (icells .u8 (zeros N)) := Blk.new _ _ _
      have hsz : w.heap.size = wr.heap.size := by rw [Q.out]; rfl
      have O1 := Lib.hid o1
      have B1 := Lib.hid b1
      have HSZ := Lib.hid hsz
      have B1r : Hid ((wr.alloc (.cells (icells .u8 (zeros N)).toArray 5)).heap[wr.heap.size]? = some (.cells (icells .u8 (zeros N)).toArray 5 (0, 0))) := b1
      clear o1 b1 hsz
      have hge : ¬ ((116 - N : Nat) : Int) < ((128 - (12 + N) : Nat) : Int) := by omega
      by_cases hN0 : N = 0
      · subst hN0
        go_wp2_with ((with_reducible refine gate_dst (N := 45) rfl ?_); refine wpList_copy_nothing rfl (.tmp 38) (.tmp 44) 23 23 rfl 5 Try.underlying23 (by kernel_rfl) _ _ 0 0 0 _ rfl rfl rfl ?_)
        refine (get32_row _ 124 _ _ _ (Kd.C_below HR2.out O1.out.below_all) (by omega) HB4.out).mono ?_
        rintro e w4 ⟨rfl, m4, hw4⟩
        have O4 := Lib.hid (show Only w w4 (fun _ => False) by rw [hw4]; exact O1.out.drewN _)
        have B4 := Lib.hid (show Blk w4 wr.heap.size 5 (icells .u8 ((b.drop 12).take 0)) by rw [hw4]; exact B1.out)
        clear hw4 O1 B1 B1r
        go_wp2
        go_ret3
        exact ⟨_, rfl, by rw [HSZ.out]; exact Nat.le_refl _, B4.out, O4.out⟩
      · have hN0' : ¬ (N : Int) = 0 := by omega
        go_wp2_with (refine wpList_copy_splice (o := ⟨some 45, _, _, _, _, _⟩) rfl (.tmp 38) (.tmp 44) 23 23 rfl 5 Try.underlying23 (by kernel_rfl) (some ⟨wr.heap.size, 0, none⟩) _ N N (12 + N - 12) _ rfl rfl wr.heap.size 0 _ 5 B1r.out (icells .u8 ((b.drop 12).take N)) ?c1 ?c2 ?c3 ?c4 w.heap.size w ?c5 ?c6 ?_)
        case c1 => first | (rw [icells_length, mid_length HL.out _ (by omega)]; done) | (rw [icells_length, mid_length HL.out _ (by omega), Nat.add_sub_cancel_left]; exact (Nat.min_self _).symm)
        case c2 =>
          intro hp
          have hsrc : ∀ j v, (icells .u8 ((b.drop 12).take N))[j]? = some v → (wr.alloc (.cells (icells .u8 (zeros N)).toArray 5)).cell? ((ad.add 12).add j) = some v := fun j v hv => pw_cell_below O1.out.below_all (mid_cells HC.out HL.out N hNn j v hv)
          intro j v hv
          have h5 := hsrc j v hv
          rw [add_of_add, show ad.add (12 + j) = ⟨ad.block, ad.off + 12 + j, none⟩ from by unfold Addr.add; rw [if_neg (by omega), Nat.add_assoc]] at h5
          exact h5
        case c3 => rw [icells_length, icells_length, mid_length HL.out _ (by omega), zeros_length]; omega
        case c4 => exact icells_one _ _
        case c5 => exact O1.out.below_all
        case c6 => rw [HSZ.out]; exact Nat.le_refl _
        intro w3 b3 o3
        have B3 : Hid (Blk w3 wr.heap.size 5 (icells .u8 ((b.drop 12).take N))) := by
          have h3 := b3.out
          rw [icells_splice] at h3
          have e : splice (zeros N) 0 ((b.drop 12).take N) = (b.drop 12).take N := by
            have e1 : (zeros N).drop (0 + ((b.drop 12).take N).length) = [] := List.drop_of_length_le (by rw [mid_length HL.out _ (by omega), zeros_length]; omega)
            unfold splice
            rw [e1, List.take_zero, List.nil_append, List.append_nil]
          rw [e] at h3
          exact Lib.hid h3
        have O3 := Lib.hid (Only.of_below o3 (fun _ => False))
        clear b3 o3 B1 B1r O1
        go_wp2_with fail
        refine (get32_row _ 124 _ _ _ (Kd.C_below HR2.out O3.out.below_all) (by omega) HB4.out).mono ?_
        rintro e w4 ⟨rfl, m4, hw4⟩
        have O4 := Lib.hid (show Only w w4 (fun _ => False) by rw [hw4]; exact O3.out.drewN _)
        have B4 := Lib.hid (show Blk w4 wr.heap.size 5 (icells .u8 ((b.drop 12).take N)) by rw [hw4]; exact B3.out)
        clear hw4 O3 B3
        go_wp2
        go_ret3
        exact ⟨_, rfl, by rw [HSZ.out]; exact Nat.le_refl _, B4.out, O4.out⟩
end Go.Proofs.Ytochnokfcfmgnaa.Hand
end

section
/- The contract of pages.Unpack: a page that is full, read out of a row without spare room; and all cases in one. -/
namespace Go.Proofs.Ytochnokfcfmgnaa.Hand
open Go.RowKit Go.Proofs.Ytochnokfcfmgnaa.Mem Go.Proofs.Ytochnokfcfmgnaa.Pure Go.Proofs.Ytochnokfcfmgnaa.PShadowCrashes Go.Proofs.YtochnokfcfmgnaaW.PrintWords
set_option linter.unusedVariables false
set_option linter.unusedSimpArgs false

set_option maxRecDepth 100000 in
set_option maxHeartbeats 2000000 in
theorem unpack_full (ad : Addr) (b : List Int) (w : World) (hr : (Kd.int .u8).C w (some ad) 128 b) (hb : ∀ x ∈ b, 0 ≤ x ∧ x < 256) (hsum : ld32 b = sumOf (b.drop 4)) (hn : ld32 (b.drop 8) = 116) :
    Calls Try.prog 76 #[.slice (some ad) 128 128] w fun e w' => ∃ g, e = .returned (.tuple #[.int .u32 (ld32 (b.drop 4)), .slice (some ⟨g, 0, none⟩) 116 116, .int .i64 0]) ∧ w.heap.size ≤ g ∧ Blk w' g 5 (icells .u8 ((b.drop 12).take 116)) ∧ Only w w' (fun _ => False) := by
  have HR := Lib.hid hr
  have HB := Lib.hid hb
  have hl := hr.1
  have HL := Lib.hid hl
  have c8 : Calls Try.prog 91 #[.slice (some ⟨ad.block, ad.off + 8, none⟩) 120 120] (w.drewN 0) fun e w' => e = .returned (.int .u32 (ld32 (b.drop 8))) ∧ ∃ m, w' = w.drewN m := get32_row _ 120 _ _ w (C_cut hr 8 (by omega) (by omega)) (by omega) (drop_bytes hb 8)
  rw [hn] at c8
  have c0 : ∀ m, Calls Try.prog 91 #[.slice (some ad) 128 128] (w.drewN m) fun e w' => e = .returned (.int .u32 (ld32 b)) ∧ ∃ k, w' = (w.drewN m).drewN k := fun m => get32_row _ 128 _ _ _ (Kd.C_drewN hr m) (by omega) hb
  have cs : ∀ m, Calls Try.prog 90 #[.slice (some ⟨ad.block, ad.off + 4, none⟩) 124 124] (w.drewN m) fun e w' => e = .returned (.int .u32 (sumOf (b.drop 4))) ∧ ∃ k, w' = (w.drewN m).drewN k := fun m => (sum_any _ 124 _ _ _ (C_cut (Kd.C_drewN hr m) 4 (by omega) (by omega)) (by omega) (drop_bytes hb 4) (by rw [List.length_drop]; omega)).mono fun e w' ⟨h1, h2⟩ => ⟨h1, drawn_ex h2⟩
  have C8 := Lib.hid c8
  have C0 := Lib.hid c0
  have CS := Lib.hid cs
  have t1 : (ld32 b != sumOf (b.drop 4)) = false := by rw [hsum]; simp
  obtain ⟨ad', had, hcell⟩ := C_cells hr (by omega)
  obtain rfl : ad = ad' := by injection had
  have hcell' : ∀ j, j < 128 → w.cell? (ad.add j) = some (.int .u8 (b.getD j 0)) := fun j hj => hcell j _ (icells_getD _ _ _ (by omega))
  have HC := Lib.hid hcell'
  have HR2 := Lib.hid (C_cut hr 4 (by omega) (by omega))
  have HB4 := Lib.hid (drop_bytes hb 4)
  clear hr hb hl c8 c0 cs HR hsum hn had hcell hcell'
  generalize hg : ld32 b = g at *
  generalize hs : sumOf (b.drop 4) = s at *
  clear hg hs
  have hmk : ∀ w : World, (Instr.makeSlice 23 (.int .u32 116) (.int .u32 116)).run Try.prog w = .ok (.slice (some ⟨w.heap.size, 0, none⟩) 116 116) (w.alloc (.cells (icells .u8 (zeros 116)).toArray 5)) := makeN 116 (by omega)
  go_enter Try.func76, Try.ntmps76
  go_wp2_with fail
  refine C8.out.mono ?_
  rintro e w1 ⟨rfl, m1, hw1⟩
  have HW := Lib.hid hw1
  have C0W : Hid (∀ m, Calls Try.prog 91 #[.slice (some ad) 128 128] (w1.drewN m) fun e w' => e = .returned (.int .u32 g) ∧ ∃ k, w' = (w1.drewN m).drewN k) := Lib.hid (fun m => by rw [hw1, World.drewN_drewN]; exact C0.out _)
  have CSW : Hid (∀ m, Calls Try.prog 90 #[.slice (some ⟨ad.block, ad.off + 4, none⟩) 124 124] (w1.drewN m) fun e w' => e = .returned (.int .u32 s) ∧ ∃ k, w' = (w1.drewN m).drewN k) := Lib.hid (fun m => by rw [hw1, World.drewN_drewN]; exact CS.out _)
  clear hw1 C0 CS
  go_wp2_with fail
  go_quiet (first | (go_at_call 91; exact Calls.quiet_of (C0W.out _)) | (go_at_call 90; exact Calls.quiet_of (CSW.out _)))
  clear C0W CSW
  go_wp2
  go_loopg [29] 0 (fun m i wr => i = .int .i64 0 ∧ Aside1 (∃ q, wr = w.drewN q))
  case atStart => exact ⟨rfl, ⟨⟨_, by rw [HW.out, World.drewN_drewN]⟩⟩⟩
  case round =>
    obtain ⟨rfl, hA⟩ := hrel
    obtain ⟨q, hq⟩ := hA.out
    have Q := Lib.hid hq
    clear hq hA
    have o1 : Only w (wr.alloc (.cells (icells .u8 (zeros 116)).toArray 5)) (fun _ => False) := by rw [Q.out]; exact ((Only.refl _ _).drewN _).alloc _
    have b1 : Blk (wr.alloc (.cells (icells .u8 (zeros 116)).toArray 5)) wr.heap.size 5 (icells .u8 (zeros 116)) := Blk.new _ _ _
    have hsz : w.heap.size = wr.heap.size := by rw [Q.out]; rfl
    have O1 := Lib.hid o1
    have HSZ := Lib.hid hsz
    have B1r : Hid ((wr.alloc (.cells (icells .u8 (zeros 116)).toArray 5)).heap[wr.heap.size]? = some (.cells (icells .u8 (zeros 116)).toArray 5 (0, 0))) := b1
    clear o1 b1 hsz
    go_wp2_with ((with_reducible refine gate_dst (N := 45) rfl ?_); go_must (refine wpList_copy_splice rfl (.tmp 38) (.tmp 44) 23 23 rfl 5 Try.underlying23 (by kernel_rfl) (some ⟨wr.heap.size, 0, none⟩) _ 116 116 116 _ rfl rfl wr.heap.size 0 _ 5 B1r.out (icells .u8 ((b.drop 12).take 116)) ?c1 ?c2 ?c3 ?c4 w.heap.size w ?c5 ?c6 ?_))
    case c1 => rw [icells_length, mid_length HL.out _ (by omega)]; rfl
    case c2 =>
      intro hp
      have hsrc : ∀ j v, (icells .u8 ((b.drop 12).take 116))[j]? = some v → (wr.alloc (.cells (icells .u8 (zeros 116)).toArray 5)).cell? ((ad.add 12).add j) = some v := fun j v hv => pw_cell_below O1.out.below_all (mid_cells HC.out HL.out 116 (by omega) j v hv)
      have h5 : ∀ j v, (icells .u8 ((b.drop 12).take 116))[j]? = some v → (wr.alloc (.cells (icells .u8 (zeros 116)).toArray 5)).cell? ⟨ad.block, ad.off + 12 + j, none⟩ = some v := by
        intro j v hv
        have h5 := hsrc j v hv
        rw [add_of_add, show ad.add (12 + j) = ⟨ad.block, ad.off + 12 + j, none⟩ from by unfold Addr.add; rw [if_neg (by omega), Nat.add_assoc]] at h5
        exact h5
      first | exact h5 | exact ⟨rfl, _, rfl, hsrc⟩ | exact ⟨_, rfl, hsrc⟩ | exact ⟨rfl, _, rfl, h5⟩ | exact ⟨_, rfl, h5⟩
    case c3 => rw [icells_length, icells_length, mid_length HL.out _ (by omega), zeros_length]; omega
    case c4 => exact icells_one _ _
    case c5 => exact O1.out.below_all
    case c6 => rw [HSZ.out]; exact Nat.le_refl _
    intro w3 b3 o3
    have B3 : Hid (Blk w3 wr.heap.size 5 (icells .u8 ((b.drop 12).take 116))) := by
      have h3 := b3.out
      rw [icells_splice] at h3
      have e : splice (zeros 116) 0 ((b.drop 12).take 116) = (b.drop 12).take 116 := by
        have e1 : (zeros 116).drop (0 + ((b.drop 12).take 116).length) = [] := List.drop_of_length_le (by rw [mid_length HL.out _ (by omega), zeros_length]; omega)
        unfold splice
        rw [e1, List.take_zero, List.nil_append, List.append_nil]
      rw [e] at h3
      exact Lib.hid h3
    have O3 := Lib.hid (Only.of_below o3 (fun _ => False))
    clear b3 o3 B1r O1
    go_wp2_with fail
    refine (get32_row _ 124 _ _ _ (Kd.C_below HR2.out O3.out.below_all) (by omega) HB4.out).mono ?_
    rintro e w4 ⟨rfl, m4, hw4⟩
    have O4 := Lib.hid (show Only w w4 (fun _ => False) by rw [hw4]; exact O3.out.drewN _)
    have B4 := Lib.hid (show Blk w4 wr.heap.size 5 (icells .u8 ((b.drop 12).take 116)) by rw [hw4]; exact B3.out)
    clear hw4 O3 B3
    go_wp2
    go_ret3
    exact ⟨_, rfl, by rw [HSZ.out]; exact Nat.le_refl _, B4.out, O4.out⟩

/-- WHAT Unpack ANSWERS, for every row of bytes. -/
theorem unpack_any (A : Option Addr) (c : Nat) (b : List Int) (w : World) (hr : (Kd.int .u8).C w A b.length b) (hc : b.length ≤ c) (hb : ∀ x ∈ b, 0 ≤ x ∧ x < 256) :
    Calls Try.prog 76 #[.slice A b.length c] w fun e w' => ∃ v, e = .returned (.tuple #[.int .u32 (unp b).1, v, .int .i64 (unp b).2.2]) ∧ (Kd.int .u8).R 5 w' w.heap.size (fun _ => True) v (unp b).2.1 ∧ Below w.heap.size w w' := by
  by_cases hl : b.length = 128
  · have hr' := hr
    rw [hl] at hr' hc ⊢
    obtain ⟨ad, rfl, _⟩ := C_cells hr' (by omega)
    have hr8 := ld32_range (drop_bytes hb 8)
    by_cases hbad : ld32 b ≠ sumOf (b.drop 4) ∨ 116 < ld32 (b.drop 8)
    · have hu : unp b = (0, [], 5) := by unfold unp; rw [if_neg (by omega), if_pos hbad]
      rw [hu]
      refine (unpack_sum ad c b w hr' hc hb hbad).mono fun e w' ⟨he, m, hm⟩ => ?_
      subst hm
      exact ⟨_, he, Kd.R_nil _ _ _ _ _, ((Only.refl w (fun _ => False)).drewN m).below_all⟩
    · have h1 : ld32 b = sumOf (b.drop 4) := Classical.byContradiction fun h => hbad (.inl h)
      have h2 : ld32 (b.drop 8) ≤ 116 := Classical.byContradiction fun h => hbad (.inr (by omega))
      by_cases hz : (b.drop (12 + (ld32 (b.drop 8)).toNat)).all (· == 0) = true
      · have hu : unp b = (ld32 (b.drop 4), (b.drop 12).take (ld32 (b.drop 8)).toNat, 0) := by unfold unp; rw [if_neg (by omega), if_neg hbad, if_pos hz]
        have hlen : ((b.drop 12).take (ld32 (b.drop 8)).toNat).length = (ld32 (b.drop 8)).toNat := mid_length hl _ (by omega)
        have fin : ∀ e w', (∃ g, e = Ending.returned (.tuple #[.int .u32 (ld32 (b.drop 4)), .slice (some ⟨g, 0, none⟩) (ld32 (b.drop 8)).toNat (ld32 (b.drop 8)).toNat, .int .i64 0]) ∧ w.heap.size ≤ g ∧ Blk w' g 5 (icells .u8 ((b.drop 12).take (ld32 (b.drop 8)).toNat)) ∧ Only w w' (fun _ => False)) →
            ∃ v, e = .returned (.tuple #[.int .u32 (unp b).1, v, .int .i64 (unp b).2.2]) ∧ (Kd.int .u8).R 5 w' w.heap.size (fun _ => True) v (unp b).2.1 ∧ Below w.heap.size w w' := by
          rintro e w' ⟨g, he, hg, hB, hO⟩
          rw [hu]
          have hR := R_of_blk (ok := fun _ => True) hB hg (by rw [hlen]; omega) trivial
          rw [hlen] at hR
          exact ⟨_, he, hR, hO.below_all⟩
        by_cases hcN : 12 + (ld32 (b.drop 8)).toNat < c
        · exact (unpack_good ad c b w hr' hc hb h1 h2 hz hcN).mono fin
        · obtain rfl : c = 128 := by omega
          have h116 : ld32 (b.drop 8) = 116 := by omega
          refine (unpack_full ad b w hr' hb h1 h116).mono fun e w' h => fin e w' ?_
          rw [h116]
          exact h
      · have hu : unp b = (0, [], 5) := by unfold unp; rw [if_neg (by omega), if_neg hbad, if_neg hz]
        rw [hu]
        refine (unpack_dirt ad c b w hr' hc hb h1 h2 hz).mono fun e w' ⟨he, m, hm⟩ => ?_
        subst hm
        exact ⟨_, he, Kd.R_nil _ _ _ _ _, ((Only.refl w (fun _ => False)).drewN m).below_all⟩
  · have hu : unp b = (0, [], 2) := by unfold unp; rw [if_pos hl]
    rw [hu]
    refine (unpack_len A b.length c w hl hr.2.1).mono fun e w' ⟨he, hw⟩ => ?_
    subst hw
    exact ⟨_, he, Kd.R_nil _ _ _ _ _, Below.refl _ _⟩
/-- WHAT Pack ANSWERS, for every row of bytes. -/
def pck (id : Int) (data : List Int) : List Int × Int := if data.length ≤ 116 then (packed id data, 0) else ([], 11)
theorem pack_any (id : Int) (A : Option Addr) (c : Nat) (data : List Int) (w : World) (hr : (Kd.int .u8).C w A data.length data) (hc : data.length ≤ c) (hid : 0 ≤ id ∧ id < 4294967296) (hd : ∀ x ∈ data, 0 ≤ x ∧ x < 256) :
    Calls Try.prog 75 #[.int .u32 id, .slice A data.length c] w fun e w' => ∃ v, e = .returned (.tuple #[v, .int .i64 (pck id data).2]) ∧ (Kd.int .u8).R 5 w' w.heap.size (fun _ => True) v (pck id data).1 ∧ Below w.heap.size w w' := by
  by_cases hl : data.length ≤ 116
  · have hu : pck id data = (packed id data, 0) := if_pos hl
    rw [hu]
    refine (pack_ok id A c data w hr hc hid.1 hid.2 hl hd).mono ?_
    rintro e w' ⟨g, he, hg, hB, hO⟩
    have hlen : (packed id data).length = 128 := by rw [packed, List.length_append, rest_length id data hl]; rfl
    have hR := R_of_blk (ok := fun _ => True) hB hg (by rw [hlen]; omega) trivial
    rw [hlen] at hR
    exact ⟨_, he, hR, hO.below_all⟩
  · have hu : pck id data = ([], 11) := if_neg hl
    rw [hu]
    refine (pack_large id A data.length c w (by omega) hr.2.1).mono fun e w' ⟨he, hw⟩ => ?_
    subst hw
    exact ⟨_, he, Kd.R_nil _ _ _ _ _, Below.refl _ _⟩
end Go.Proofs.Ytochnokfcfmgnaa.Hand
end

section
/- The plain law of pages: what was packed is unpacked as it was; a byte that is turned is told. -/
namespace Go.Proofs.Ytochnokfcfmgnaa.Pp
open Go.RowKit Go.Proofs.Ytochnokfcfmgnaa.Hand Go.Proofs.Ytochnokfcfmgnaa.Crc Go.Proofs.Ytochnokfcfmgnaa.Pure
set_option linter.unusedVariables false
set_option linter.unusedSimpArgs false

theorem byteN_0 (a : Int) : byteN a 0 = a % 256 := by simp [byteN]
theorem byteN_1 (a : Int) : byteN a 1 = a / 256 % 256 := by simp [byteN]
theorem byteN_2 (a : Int) : byteN a 2 = a / 65536 % 256 := by simp [byteN]
theorem byteN_3 (a : Int) : byteN a 3 = a / 16777216 % 256 := by simp [byteN]
theorem ld32_le32 (a : Int) (h : 0 ≤ a ∧ a < 4294967296) (t : List Int) : ld32 (le32 a ++ t) = a := by
  unfold ld32 le32
  simp only [List.cons_append, List.getD_cons_zero, List.getD_cons_succ]
  rw [byteN_0, byteN_1, byteN_2, byteN_3]
  omega
theorem drop4 (a : Int) (t : List Int) : (le32 a ++ t).drop 4 = t := rfl
theorem packed_length (id : Int) (data : List Int) (h : data.length ≤ 116) : (packed id data).length = 128 := by
  rw [packed, List.length_append, rest_length id data h]; rfl
theorem packed_bytes (id : Int) (data : List Int) (hd : ∀ x ∈ data, 0 ≤ x ∧ x < 256) : ∀ x ∈ packed id data, 0 ≤ x ∧ x < 256 := by
  intro x hx
  rcases List.mem_append.1 hx with h | h
  · exact le32_bytes _ x h
  · exact rest_bytes id data hd x h
theorem unp_packed (id : Int) (data : List Int) (hid : 0 ≤ id ∧ id < 4294967296) (h : data.length ≤ 116) : unp (packed id data) = (id, data, 0) := by
  have h1 : ld32 (packed id data) = sumOf ((packed id data).drop 4) := by
    rw [packed, ld32_le32 _ (sumOf_range _), drop4]
  have h2 : (packed id data).drop 8 = le32 data.length ++ (data ++ zeros (116 - data.length)) := rfl
  have h3 : ld32 ((packed id data).drop 8) = data.length := by rw [h2, ld32_le32 _ (by omega)]
  have h4 : ld32 ((packed id data).drop 4) = id := by
    have : (packed id data).drop 4 = le32 id ++ (le32 data.length ++ (data ++ zeros (116 - data.length))) := rfl
    rw [this, ld32_le32 _ hid]
  have h5 : (packed id data).drop 12 = data ++ zeros (116 - data.length) := rfl
  have h6 : (packed id data).drop (12 + data.length) = zeros (116 - data.length) := by
    rw [← List.drop_drop, h5, List.drop_left]
  unfold unp
  rw [if_neg (by rw [packed_length id data h]; omega), if_neg (by rw [h3]; intro hh; rcases hh with hh | hh; exact hh h1; omega), h3, Int.toNat_natCast, h6, if_pos (List.all_eq_true.2 (fun x hx => by rw [List.eq_of_mem_replicate hx]; rfl)), h4, h5, List.take_left]
end Go.Proofs.Ytochnokfcfmgnaa.Pp
end

section
/- Arguments of whatever shape (numbers, bools, slices, structs), opened by kinds; each slice's weight is bounded. -/
namespace Go.Proofs.Ytochnokfcfmgnaa.Op
open Go.ChangeShapes Go.WideShapes Go.RowKit Go.Deep Go.Proofs.YtochnokfcfmgnaaW.PrintWords
set_option linter.unusedVariables false
set_option linter.unusedSimpArgs false
/-- What reads as data of type t, and weighs no more than is bounded, is of kind d, and good. -/
def Opens (P : Program) (t : TypeId) {α : Type} (d : Kd α) (good : α → Prop) : Prop := d.sz = P.cellsOf t ∧ ∀ (H : Type) (enc : TypeId × Value → H) (W : World) (fuel : Nat) (cs : List Value) (x : DataW H × List MemPlace),
  DataW.trod enc P W 0 (fun _ => true) true fuel t cs = some x → (∀ n ∈ x.1.weights P t, n ≤ reachBytes) → ∃ a, d.K W a cs ∧ good a
/-- The same of a struct's fields, from offset o on. -/
def OpensF (P : Program) (o : Nat) (fs : List Field) {α : Type} (d : Kd α) (good : α → Prop) : Prop := ∀ (H : Type) (enc : TypeId × Value → H) (W : World) (n : Nat) (cs : List Value) (xs : List (DataW H × List MemPlace)),
  cs.length = d.sz → xs.length = fs.length → (∀ (i : Nat) (f : Field), fs[i]? = some f → DataW.trod enc P W 0 (fun _ => true) true n f.type ((cs.drop (f.offset - o)).take (P.cellsOf f.type)) = xs[i]?) →
  (∀ n ∈ DataW.weightsEach P (fs.map (·.type)) (xs.map (·.1)), n ≤ reachBytes) → ∃ a, d.K W a cs ∧ good a
variable {P : Program} {t e : TypeId} {α β : Type}
theorem opens_int {k : IntKind} (ht : P.underlying t = some (.int k)) (hc : P.cellsOf t = 1) : Opens P t (Kd.int k) (fun a => (Lit.int k a).wf = true) := by
  refine ⟨hc.symm, fun H enc W fuel cs x h _ => ?_⟩
  obtain ⟨n, rfl, rfl, hw⟩ := DataW.trod_int ht h
  exact ⟨n, rfl, hw⟩
theorem opens_bool (ht : P.underlying t = some .bool) (hc : P.cellsOf t = 1) : Opens P t Kd.bool (fun _ => True) := by
  refine ⟨hc.symm, fun H enc W fuel cs x h _ => ?_⟩
  obtain ⟨n, rfl, rfl⟩ := DataW.trod_bool ht h
  exact ⟨n, rfl, trivial⟩
theorem mem_weightsAll {H : Type} {n : Nat} : ∀ {l : List (DataW H)} {d : DataW H}, d ∈ l → n ∈ d.weights P e → n ∈ DataW.weightsAll P e l
  | x :: r, d, h, hn => by
    unfold DataW.weightsAll
    rcases List.mem_cons.1 h with rfl | h
    · exact List.mem_append_left _ hn
    · exact List.mem_append_right _ (mem_weightsAll h hn)
/-- The rows of a slice. -/
theorem rows_of {d : Kd α} {good : α → Prop} (ht : P.underlying t = some (.slice e)) (he : Opens P e d good) (hp : 0 < P.bytesOf e) {H : Type} {enc : TypeId × Value → H} {W : World} {fuel : Nat} {cs : List Value} {x : DataW H × List MemPlace}
    (h : DataW.trod enc P W 0 (fun _ => true) true fuel t cs = some x) (hw : ∀ n ∈ x.1.weights P t, n ≤ reachBytes) :
    ∃ (A : Option Addr) (c : Nat) (l : List α), cs = [.slice A l.length c] ∧ l.length ≤ c ∧ d.C W A l.length l ∧ l.length * P.bytesOf e ≤ reachBytes ∧ ∀ a ∈ l, good a := by
  rcases open_slice ht h with ⟨rfl, rfl⟩ | ⟨a, len, cap, m, n, D, Pl, rfl, hb, hl, hm, hmm, rfl, hx⟩
  · exact ⟨none, 0, [], rfl, Nat.le_refl _, ⟨rfl, by simp, fun h => absurd h (by simp)⟩, by simp, fun a ha => by cases ha⟩
  · simp only [if_true] at hmm
    subst hmm
    have hel : ∀ i, i < len → ∃ y, (∃ cs', W.cells? 0 (a.add (i * P.cellsOf e)) (P.cellsOf e) = some cs' ∧ d.K W y cs') ∧ good y := by
      intro i hi
      obtain ⟨cs', h1, h2⟩ := hx i (by omega)
      obtain ⟨y, hy, hg⟩ := he.2 H enc W n cs' _ h2 (fun k hk => hw k (by
        simp only [DataW.weights, ht]
        refine List.mem_cons_of_mem _ (List.mem_append_left _ (mem_weightsAll ?_ hk))
        exact List.mem_map.2 ⟨i, List.mem_range.2 hi, rfl⟩))
      exact ⟨y, ⟨cs', h1, hy⟩, hg⟩
    obtain ⟨l, hlen, hl2⟩ : ∃ l : List α, l.length = len ∧ ∀ i y, l[i]? = some y → (∃ cs', W.cells? 0 (a.add (i * P.cellsOf e)) (P.cellsOf e) = some cs' ∧ d.K W y cs') ∧ good y := by
      clear hw hx
      have : ∀ k, k ≤ len → ∃ l : List α, l.length = k ∧ ∀ i y, l[i]? = some y → (∃ cs', W.cells? 0 (a.add (i * P.cellsOf e)) (P.cellsOf e) = some cs' ∧ d.K W y cs') ∧ good y := by
        intro k
        induction k with
        | zero => intro _; exact ⟨[], rfl, fun i y hy => by simp at hy⟩
        | succ k ih =>
          intro hk
          obtain ⟨l, hl1, hl2⟩ := ih (by omega)
          obtain ⟨y, hy⟩ := hel k (by omega)
          refine ⟨l ++ [y], by simp [hl1], fun i z hz => ?_⟩
          by_cases hi : i < l.length
          · rw [List.getElem?_append_left hi] at hz
            exact hl2 i z hz
          · rw [List.getElem?_append_right (by omega)] at hz
            by_cases h0 : i - l.length = 0
            · rw [h0] at hz
              simp at hz
              subst hz
              rw [show i = k by omega]
              exact hy
            · rw [List.getElem?_eq_none (by simp; omega)] at hz
              cases hz
      exact this len (Nat.le_refl _)
    subst hlen
    have hwt : l.length * P.bytesOf e ≤ reachBytes := by
      have := hw ((l.length + (m - l.length)) * P.bytesOf e) (by simp only [DataW.weights, ht]; refine List.mem_cons.2 (.inl ?_); simp)
      exact Nat.le_trans (Nat.mul_le_mul_right _ (by omega)) this
    refine ⟨some a, m, l, rfl, hl, ⟨rfl, ?_, fun h => ⟨a, rfl, fun j p hj => ?_⟩⟩, hwt, fun y hy => ?_⟩
    · have h1 : l.length ≤ l.length * P.bytesOf e := Nat.le_mul_of_pos_right _ hp
      have h2 : reachBytes < 2 ^ 47 := reachBytes_lt
      have h3 : (2 : Nat) ^ 47 ≤ 9223372036854775807 := by decide
      omega
    · obtain ⟨⟨cs', h1, h2⟩, _⟩ := hl2 j p hj
      obtain ⟨_, h4, h5⟩ := World.cells?_some h1
      rw [he.1]
      refine ⟨cs', h4, h2, fun i u hu => ?_⟩
      have hi : i < P.cellsOf e := by rw [← h4]; exact (List.getElem?_eq_some_iff.1 hu).1
      have := h5 i hi
      rw [← Addr.add_add, this]
      exact hu
    · obtain ⟨i, hi, rfl⟩ := List.mem_iff_getElem.1 hy
      exact (hl2 i _ (List.getElem?_eq_getElem hi)).2
theorem opens_slice {d : Kd α} {good : α → Prop} (q : Nat) (ht : P.underlying t = some (.slice e)) (hc : P.cellsOf t = 1) (he : Opens P e d good) (hp : 0 < P.bytesOf e) : Opens P t (Kd.slice q d) (fun l => l.length * P.bytesOf e ≤ reachBytes ∧ ∀ a ∈ l, good a) := by
  refine ⟨hc.symm, fun H enc W fuel cs x h hw => ?_⟩
  obtain ⟨A, c, l, rfl, h1, h2, h3, h4⟩ := rows_of ht he hp h hw
  exact ⟨l, ⟨A, c, rfl, h1, h2⟩, h3, h4⟩
theorem opensF_one {f : Field} {d : Kd α} {good : α → Prop} {o : Nat} (ho : f.offset = o) (he : Opens P f.type d good) : OpensF P o [f] d good := by
  intro H enc W n cs xs hl hx hf hw
  have h0 := hf 0 f rfl
  match xs, hx with
  | [x], _ =>
    rw [ho, Nat.sub_self, List.drop_zero, List.take_of_length_le (by rw [hl, he.1]; exact Nat.le_refl _)] at h0
    exact he.2 H enc W n cs x (by simpa using h0) (fun k hk => hw k (by simpa [DataW.weightsEach] using hk))
theorem opensF_cons {f : Field} {fs : List Field} {d1 : Kd α} {d2 : Kd β} {g1 : α → Prop} {g2 : β → Prop} {o : Nat} (ho : f.offset = o) (he : Opens P f.type d1 g1) (hr : OpensF P (o + d1.sz) fs d2 g2) (hoff : ∀ f' ∈ fs, o + d1.sz ≤ f'.offset) :
    OpensF P o (f :: fs) (Kd.pair d1 d2) (fun a => g1 a.1 ∧ g2 a.2) := by
  intro H enc W n cs xs hl hx hf hw
  have hl' : cs.length = d1.sz + d2.sz := hl
  match xs, hx with
  | x :: xr, hx =>
    have h0 := hf 0 f rfl
    rw [ho, Nat.sub_self, List.drop_zero, ← he.1] at h0
    obtain ⟨a, ha, ga⟩ := he.2 H enc W n (cs.take d1.sz) x (by simpa using h0) (fun k hk => hw k (by simp only [List.map_cons, DataW.weightsEach]; exact List.mem_append_left _ hk))
    obtain ⟨b, hb, gb⟩ := hr H enc W n (cs.drop d1.sz) xr (by rw [List.length_drop]; omega) (by simpa using hx) (fun i f' hi => by
      have := hf (i + 1) f' hi
      have h2 := hoff f' (List.mem_of_getElem? hi)
      rw [List.drop_drop, show d1.sz + (f'.offset - (o + d1.sz)) = f'.offset - o by omega]
      exact this) (fun k hk => hw k (by simp only [List.map_cons, DataW.weightsEach]; exact List.mem_append_right _ hk))
    exact ⟨(a, b), ⟨_, _, (List.take_append_drop d1.sz cs).symm, ha, hb⟩, ga, gb⟩
theorem opens_struct {fs : Array Field} {d : Kd α} {good : α → Prop} (ht : P.underlying t = some (.struct fs)) (hc : P.cellsOf t = d.sz) (hf : OpensF P 0 fs.toList d good) : Opens P t d good := by
  refine ⟨hc.symm, fun H enc W fuel cs x h hw => ?_⟩
  obtain ⟨xs, n, rfl, rfl, h1, h2, h3⟩ := DataW.trod_struct ht h
  refine hf H enc W n cs xs (by rw [h1, hc]) (by rw [h2]; simp) (fun i f hi => ?_) (fun k hk => hw k (by simp only [DataW.weights, ht]; exact hk))
  rw [Nat.sub_zero]
  exact h3 i f (by simpa using hi)
end Go.Proofs.Ytochnokfcfmgnaa.Op
end

section
/- Words under the disk's and the pages' laws. -/
namespace Go.Proofs.Ytochnokfcfmgnaa.Dk
open Go.RowKit Go.Proofs.Ytochnokfcfmgnaa.Mem Go.Proofs.YtochnokfcfmgnaaW.PrintWords
set_option linter.unusedVariables false
set_option linter.unusedSimpArgs false
theorem splice_out {α : Type} (l c : List α) (o t : Nat) (h : o + c.length ≤ l.length) (ht : t < o ∨ o + c.length ≤ t) : (splice l o c)[t]? = l[t]? := by
  unfold splice
  rcases ht with ht | ht
  · rw [List.getElem?_append_left (by simp; omega), List.getElem?_take, if_pos ht]
  · rw [List.getElem?_append_right (by simp; omega), List.length_take, Nat.min_eq_left (by omega), List.getElem?_append_right (by omega), List.getElem?_drop]
    congr 1
    omega
def Wf (k : IntKind) : Int → Prop := fun a => (Lit.int k a).wf = true
theorem wf_u8 {a : Int} (h : Wf .u8 a) : 0 ≤ a ∧ a < 256 := by
  have h : (Lit.int .u8 a).wf = true := h
  have h1 : IntKind.u8.min = 0 := by decide
  have h2 : IntKind.u8.max = 255 := by decide
  simp [Lit.wf, h1, h2] at h
  omega
theorem dk_writeS' {w : World} {base g n : Nat} {ok : Nat → Prop} {x : DV} (h : IsDisk w base ok g x) (hg : Good x n) (hbase : base ≤ w.heap.size) (hpl : (x.pend.length + 1) * 32 ≤ 140737488355328) (hlife : x.life ≠ 0) (s : Int) (h0 : 0 ≤ s) (h1 : s < n) (ab ao c : Nat) (b : List Int) (hb : (Kd.int .u8).C w (some ⟨ab, ao, none⟩) 32 b) (hab : ab < w.heap.size) (hne : ¬ ok ab) :
    Calls Try.prog 48 #[.pointer (some ⟨g, 0, none⟩), .int .i64 s, .slice (some ⟨ab, ao, none⟩) 32 c] w fun e w' => e = .returned (.int .i64 0) ∧ IsDisk w' base (fun k => ok k ∨ w.heap.size ≤ k) g (x.write s.toNat b) ∧ Only w w' ok := by
  obtain ⟨m, rfl⟩ := Int.eq_ofNat_of_zero_le h0
  rw [Int.toNat_natCast]
  exact dk_write h hg hg.n2 hbase hpl hlife m (by omega) ab ao c b hb hab hne
theorem C_pre' {w : World} {g o n : Nat} {t : TypeId} {k : IntKind} {xs : List Int} {junk : List Value} (hb : Blk w g t (icells k xs ++ junk)) (h : o + n ≤ xs.length) (hx : xs.length ≤ 9223372036854775807) : (Kd.int k).C w (some ⟨g, o, none⟩) n ((xs.drop o).take n) := by
  have hl : ((xs.drop o).take n).length = n := by simp; omega
  refine ⟨hl, by omega, fun _ => ⟨_, rfl, fun j p hj => ⟨[.int k p], rfl, rfl, fun i u hu => ?_⟩⟩⟩
  match i, hu with
  | 0, hu =>
    simp at hu
    subst hu
    rw [show (Kd.int k).sz = 1 from rfl, show j * 1 + 0 = j by omega]
    exact hb.at_ o n h j _ (by simp only [icells, List.getElem?_map, hj, Option.map_some])
end Go.Proofs.Ytochnokfcfmgnaa.Dk
end

section
/- pages.Write and pages.Read over a disk. -/
namespace Go.Proofs.Ytochnokfcfmgnaa.Pg
open Go.RowKit Go.Proofs.Ytochnokfcfmgnaa.Mem Go.Proofs.YtochnokfcfmgnaaW.PrintWords Go.Proofs.Ytochnokfcfmgnaa.Dk
set_option linter.unusedVariables false
set_option linter.unusedSimpArgs false
/-- Part i of a page's bytes. -/
def part (b : List Int) (i : Nat) : List Int := (b.drop (i * 32)).take 32
theorem part_length {b : List Int} (h : b.length = 128) {i : Nat} (hi : i < 4) : (part b i).length = 32 := by unfold part; rw [List.length_take, List.length_drop]; omega
theorem part_bytes {b : List Int} (h : ∀ y ∈ b, 0 ≤ y ∧ y < 256) (i : Nat) : ∀ y ∈ part b i, 0 ≤ y ∧ y < 256 := fun y hy => h y (List.mem_of_mem_drop (List.mem_of_mem_take hy))
/-- The disk behind the first i sectors of page p. -/
def pgN (x : DV) (p : Nat) (b : List Int) : Nat → DV
  | 0 => x
  | i + 1 => (pgN x p b i).write (4 * p + i) (part b i)
structure PgOk (x y : DV) (n p : Nat) (b : List Int) (i : Nat) : Prop where
  good : Dk.Good y n
  life : y.life = -1
  plen : y.pend.length = x.pend.length + i
  seen : y.seen = splice x.seen (128 * p) (b.take (32 * i))
theorem splice_step {l c d : List Int} {o : Nat} (hl : o + c.length + d.length ≤ l.length) : splice (splice l o c) (o + c.length) d = splice l o (c ++ d) := by
  unfold splice
  rw [← List.append_assoc (l.take o), List.take_append_of_le_length (by simp; omega), List.take_of_length_le (by simp; omega), List.drop_append, List.drop_of_length_le (by simp; omega)]
  simp [List.append_assoc, List.drop_drop]
  congr 1
  omega
theorem pgN_ok {x : DV} {n p : Nat} {b : List Int} (hg : Dk.Good x n) (hlife : x.life = -1) (hp : p < n / 4) (hb : b.length = 128) (hbb : ∀ y ∈ b, 0 ≤ y ∧ y < 256) : ∀ i, i ≤ 4 → PgOk x (pgN x p b i) n p b i := by
  intro i
  induction i with
  | zero => intro _; exact ⟨hg, hlife, rfl, by simp [pgN, splice]⟩
  | succ i ih =>
    intro hi
    have h := ih (by omega)
    have hpl := part_length hb (show i < 4 by omega)
    refine ⟨h.good.write (by omega) hpl (part_bytes hbb i), ?_, ?_, ?_⟩
    · show spent _ = -1
      rw [h.life]; decide
    · show (_ ++ [_]).length = _
      rw [List.length_append, h.plen]; rfl
    · show splice (pgN x p b i).seen ((4 * p + i) * 32) (part b i) = _
      have hs := hg.seen
      have e1 : (4 * p + i) * 32 = 128 * p + (b.take (32 * i)).length := by rw [List.length_take]; omega
      rw [h.seen, e1, splice_step (by rw [List.length_take, hpl, hs]; omega)]
      congr 1
      rw [show 32 * (i + 1) = 32 * i + 32 by omega, List.take_add]
      unfold part
      rw [Nat.mul_comm i 32]
theorem pgN_seen {x : DV} {n p : Nat} {b : List Int} (hg : Dk.Good x n) (hlife : x.life = -1) (hp : p < n / 4) (hb : b.length = 128) (hbb : ∀ y ∈ b, 0 ≤ y ∧ y < 256) : (pgN x p b 4).seen = splice x.seen (128 * p) b := by
  have := (pgN_ok hg hlife hp hb hbb 4 (Nat.le_refl _)).seen
  rwa [List.take_of_length_le (by omega)] at this
set_option maxHeartbeats 4000000 in
set_option maxRecDepth 100000 in
theorem pwrite_ok {w : World} {base g n : Nat} {ok : Nat → Prop} {x : DV} (h : Hid (IsDisk w base ok g x)) (hg : Hid (Dk.Good x n)) (hbs : base ≤ w.heap.size) (hlife : Hid (x.life = -1)) (hpl : (x.pend.length + 5) * 32 ≤ 140737488355328) (p : Nat) (hp : p < n / 4) (id : Int) (hid : 0 ≤ id ∧ id < 4294967296)
    (A : Option Addr) (c : Nat) (data : List Int) (hr : Hid ((Kd.int .u8).C w A data.length data)) (hc : data.length ≤ c) (hd : Hid (∀ y ∈ data, 0 ≤ y ∧ y < 256)) (hl : data.length ≤ 116) :
    Calls Try.prog 60 #[.pointer (some ⟨g, 0, none⟩), .int .i64 (p : Int), .int .u32 id, .slice A data.length c] w fun e w' => e = .returned (.int .i64 0) ∧ IsDisk w' base (fun k => ok k ∨ w.heap.size ≤ k) g (pgN x p (Hand.packed id data) 4) ∧ Only w w' ok := by
  have hn := hg.out.n2
  have HC := Lib.hid (check_ok h.out hg.out (p : Int) (by omega) (by omega))
  have PK := Hand.pack_any id A c data w hr.out hc hid hd.out
  rw [show Hand.pck id data = (Hand.packed id data, 0) from if_pos hl] at PK
  have HPK := Lib.hid PK
  have hbl := Pp.packed_length id data hl
  have hbb := Pp.packed_bytes id data hd.out
  obtain ⟨b, hb⟩ : ∃ b, Hand.packed id data = b := ⟨_, rfl⟩
  rw [hb] at HPK hbl hbb ⊢
  have HBL := Lib.hid hbl
  have HBB := Lib.hid hbb
  clear PK hb hbl hbb
  go_enter Try.func60, Try.ntmps60
  go_wp2_with fail
  refine HC.out.mono ?_
  rintro e w' ⟨rfl, rfl⟩
  go_wp2_with fail
  refine HPK.out.mono ?_
  rintro e w1 ⟨v, rfl, r1, b1⟩
  obtain ⟨gb, cb, jb, rfl, q1, -, q3, -, -, q6⟩ := R_open r1 (by rw [HBL.out]; decide)
  rw [HBL.out] at q3 ⊢
  have BB := Lib.hid q6
  have B1 := Lib.hid b1
  have Q1 := Lib.hid q1
  have D1 := Lib.hid ((h.out.bound).keep (Only.of_below b1 (fun _ => False)) (fun _ _ h => h))
  clear r1 b1 q1 q6 HC HPK
  go_wp2_with fail
  go_loopg [29] 4 (fun m iv wr => ∃ i : Nat, iv = .int .i64 i ∧ Aside1 (i + m = 4 ∧ IsDisk wr base (fun k => (ok k ∧ base ≤ k ∧ k < w.heap.size) ∨ w1.heap.size ≤ k) g (pgN x p b i) ∧ Only w1 wr (fun k => ok k ∧ base ≤ k ∧ k < w.heap.size)))
  case atStart => exact ⟨0, rfl, ⟨rfl, D1.out.mono (fun _ hk => .inl hk), Only.refl _ _⟩⟩
  case round =>
    obtain ⟨i, rfl, hA⟩ := hrel
    have HM := Lib.hid hA.out.1
    have HI := Lib.hid hA.out.2.1
    have HO := Lib.hid hA.out.2.2
    clear hA D1
    have hwi : Hid (wrap64 ((i : Int) + 1) = ((i + 1 : Nat) : Int)) := Lib.hid (by have := HM.out; unfold wrap64; omega)
    by_cases hi : i < 4
    · have hii : (i : Int) < 4 := by omega
      have hi0 : (0 : Int) ≤ (i : Int) := by omega
      have hp0 : (0 : Int) ≤ (p : Int) := by omega
      have hpm : (p : Int) ≤ 2048 := by omega
      have PO := pgN_ok hg.out hlife.out hp HBL.out HBB.out i (by omega)
      have BW := Lib.hid (BB.out.keep HO.out (fun hk => by have := Q1.out; omega))
      have hw1 : w.heap.size ≤ w1.heap.size := B1.out.size
      have hsz : w1.heap.size ≤ wr.heap.size := HO.out.size
      have hgb := BB.out.lt
      have CB : Hid ((Kd.int .u8).C wr (some ⟨gb, i * 32, none⟩) 32 (part b i)) := Lib.hid (C_pre' BW.out (show i * 32 + 32 ≤ b.length by rw [HBL.out]; omega) (by rw [HBL.out]; decide))
      have hpl1 : ((pgN x p b i).pend.length + 1) * 32 ≤ 140737488355328 := by have := PO.plen; omega
      have hlf1 : (pgN x p b i).life ≠ 0 := by rw [PO.life]; decide
      have hne1 : ¬ ((ok gb ∧ base ≤ gb ∧ gb < w.heap.size) ∨ w1.heap.size ≤ gb) := fun hk => by
        have := Q1.out
        rcases hk with hk | hk
        · have := hk.2.2; omega
        · omega
      have hs0 : (0 : Int) ≤ 4 * (p : Int) + (i : Int) := by omega
      have hs1 : 4 * (p : Int) + (i : Int) < (n : Int) := by omega
      have HWR := Lib.hid (dk_writeS' HI.out PO.good (Nat.le_trans hbs (Nat.le_trans hw1 hsz)) hpl1 hlf1 (4 * (p : Int) + (i : Int)) hs0 hs1 gb (i * 32) (cb - i * 32) (part b i) CB.out BW.out.lt hne1)
      clear PO hpl1 hlf1 hne1 hs0 hs1
      have hi32 : i * 32 + 32 ≤ 128 := by omega
      go_wp2_with fail
      rw [show (i + 1) * 32 - i * 32 = 32 by omega]
      refine HWR.out.mono ?_
      rintro e w4 ⟨rfl, d4, o4⟩
      have D4 := Lib.hid (show IsDisk w4 base (fun k => (ok k ∧ base ≤ k ∧ k < w.heap.size) ∨ w1.heap.size ≤ k) g (pgN x p b (i + 1)) from by
        have e : (4 * (p : Int) + (i : Int)).toNat = 4 * p + i := by omega
        rw [e] at d4
        exact d4.mono (fun k hk => hk.elim (fun h => h) (fun h => .inr (Nat.le_trans hsz h))))
      have O4 := Lib.hid (HO.out.step o4 (fun k hk h => h.elim (fun h => h) (fun h => by omega)))
      clear d4 o4 HI HO HWR
      go_wp2_with fail
      go_roundg (gk - 1)
      case measure => have := HM.out; omega
      case rel => exact ⟨i + 1, (by first | exact congrArg (Value.int .i64) hwi.out | exact congrArg (Value.int .i64) (by omega)), ⟨by have := HM.out; omega, D4.out, O4.out⟩⟩
    · have hii : ¬ (i : Int) < 4 := by omega
      obtain rfl : i = 4 := by have := HM.out; omega
      have hw1 : w.heap.size ≤ w1.heap.size := B1.out.size
      go_wp2_with fail
      go_ret
      exact ⟨rfl, HI.out.mono (fun k hk => hk.imp (fun h => h.1) (fun h => Nat.le_trans hw1 h)), ((Only.of_below B1.out (fun k => ok k)).step HO.out (fun k _ h => h.1))⟩
/-- A page's bytes. -/
def pageAt (l : List Int) (p : Nat) : List Int := (l.drop (128 * p)).take 128
theorem take_part {l : List Int} {p i : Nat} : (l.drop (128 * p)).take (i * 32) ++ sec l (4 * (p : Int) + (i : Int)) = (l.drop (128 * p)).take ((i + 1) * 32) := by
  unfold sec
  rw [show (4 * (p : Int) + (i : Int)).toNat * 32 = 128 * p + i * 32 by omega, show (i + 1) * 32 = i * 32 + 32 by omega, List.take_add, List.drop_drop]
set_option maxHeartbeats 4000000 in
set_option maxRecDepth 100000 in
theorem pread_ok {w : World} {base g n : Nat} {ok : Nat → Prop} {x : DV} (h : Hid (IsDisk w base ok g x)) (hg : Hid (Dk.Good x n)) (hlife : Hid (x.life = -1)) (p : Nat) (hp : p < n / 4) :
    Calls Try.prog 66 #[.pointer (some ⟨g, 0, none⟩), .int .i64 (p : Int)] w fun e w' => ∃ v, e = .returned (.tuple #[.int .u32 (Hand.unp (pageAt x.seen p)).1, v, .int .i64 (Hand.unp (pageAt x.seen p)).2.2]) ∧ (Kd.int .u8).R 5 w' w.heap.size (fun _ => True) v (Hand.unp (pageAt x.seen p)).2.1 ∧ Below w.heap.size w w' := by
  have hn := hg.out.n2
  have HC := Lib.hid (check_ok h.out hg.out (p : Int) (by omega) (by omega))
  go_enter Try.func66, Try.ntmps66
  go_wp2_with fail
  refine HC.out.mono ?_
  rintro e w' ⟨rfl, rfl⟩
  go_wp2_with fail
  have info5 : (Try.prog.info? 5).map (fun i => (i.zero, i.size, i.bytes)) = some (some (.int .u8 0), 1, 1) := by kernel_rfl
  go_loopg [8, 18] 4 (fun m bv iv wr => ∃ (i : Nat) (B : Option Addr) (nb cb : Nat), iv = .int .i64 i ∧ bv = .slice B nb cb ∧ Aside1 (i + m = 4 ∧ (Kd.int .u8).R 5 wr w.heap.size (fun _ => True) (.slice B nb cb) ((x.seen.drop (128 * p)).take (i * 32)) ∧ Below w.heap.size w wr))
  case atStart => exact ⟨0, none, 0, 0, rfl, rfl, ⟨rfl, by rw [Nat.zero_mul, List.take_zero]; exact Kd.R_nil _ _ _ _ _, Below.refl _ _⟩⟩
  case round =>
    obtain ⟨i, B, nb, cb, rfl, rfl, hA⟩ := hrel
    have HM := Lib.hid hA.out.1
    have HR := Lib.hid hA.out.2.1
    have HB := Lib.hid hA.out.2.2
    clear hA
    have hwi : Hid (wrap64 ((i : Int) + 1) = ((i + 1 : Nat) : Int)) := Lib.hid (by have := HM.out; unfold wrap64; omega)
    by_cases hi : i < 4
    · have hii : (i : Int) < 4 := by omega
      have hi0 : (0 : Int) ≤ (i : Int) := by omega
      have hp0 : (0 : Int) ≤ (p : Int) := by omega
      have hpm : (p : Int) ≤ 2048 := by omega
      have HI := Lib.hid (h.out.keep (Only.of_below HB.out (fun _ => False)) (fun _ _ hk => hk))
      have hck : chk x.life (4 * (p : Int) + (i : Int)) (n : Int) = 0 := by unfold chk; rw [if_neg (by rw [hlife.out]; decide), if_neg (by omega)]
      have RD := dk_read HI.out hg.out hg.out.n2 (4 * (p : Int) + (i : Int))
      rw [hck, if_pos rfl] at RD
      have HRD := Lib.hid RD
      have hsl := Lib.hid (sec_length x.seen n (4 * (p : Int) + (i : Int)) hg.out.seen (by omega) (by omega))
      have hlen : ((x.seen.drop (128 * p)).take (i * 32)).length ≤ 128 := by rw [List.length_take]; omega
      have hLL : Hid ((((x.seen.drop (128 * p)).take (i * 32)).length + (sec x.seen (4 * (p : Int) + (i : Int))).length) * 1 ≤ 140737488355328) := Lib.hid (by have := hsl.out; omega)
      clear RD hck
      go_wp2_with (first
        | (go_at_call 44; refine HRD.out.mono ?_; rintro e w2 ⟨v, rfl, r2, b2⟩; obtain ⟨A2, c2, e2⟩ := Kd.R_slice r2; subst e2; have R2 := Lib.hid r2; have B2 := Lib.hid b2; have HB2 := Lib.hid (((Only.of_below HB.out (fun _ => False)).step (Only.of_below b2 (fun _ => False)) (fun _ _ h => h)).below_all); clear r2 b2)
        | ((with_reducible refine gate_builtin (b := .append) (xs := #[.tmp 33, .tmp 34]) rfl ?_); at_builtin; refine Kd.R_append_rows (Kd.int .u8) (w0 := w) w.heap.size rfl (.tmp 33) (.tmp 34) 23 5 (.int .u8 0) 1 rfl Try.underlying23 info5 rfl (by decide) (by omega) (.slice B nb cb) ((x.seen.drop (128 * p)).take (i * 32)) (sec x.seen (4 * (p : Int) + (i : Int))) _ _ _ (fun _ => True) (fun _ => False) rfl rfl (Kd.R_below HR.out B2.out) (Kd.R_reads' R2.out).2.2 (fun _ _ h => h) (fun _ h => h.elim) (fun _ _ => trivial) HB2.out HB2.out.size hLL.out ?_; intro v3 w3 ho hb hg3 hat; rw [take_part] at ho; obtain ⟨A3, c3, ev3⟩ := Kd.R_slice ho; obtain ⟨n3, hn3⟩ : ∃ n3, n3 = ((x.seen.drop (128 * p)).take ((i + 1) * 32)).length := ⟨_, rfl⟩; rw [← hn3] at ev3; clear hn3; subst ev3; have R3 := Lib.hid ho; have B3 := Lib.hid hb; clear ho hb hg3 hat)
        | fail)
      go_roundg (gk - 1)
      case measure => have := HM.out; omega
      case rel => exact ⟨i + 1, A3, n3, c3, (by first | exact congrArg (Value.int .i64) hwi.out | exact congrArg (Value.int .i64) (by omega)), rfl, ⟨by have := HM.out; omega, R3.out, B3.out⟩⟩
    · have hii : ¬ (i : Int) < 4 := by omega
      obtain rfl : i = 4 := by have := HM.out; omega
      have hr : (Kd.int .u8).R 5 wr w.heap.size (fun _ => True) (.slice B nb cb) (pageAt x.seen p) := HR.out
      have hby : ∀ y ∈ pageAt x.seen p, 0 ≤ y ∧ y < 256 := fun y hy => hg.out.bs y (List.mem_of_mem_drop (List.mem_of_mem_take hy))
      have rr := Kd.R_reads' hr
      obtain rfl : nb = (pageAt x.seen p).length := rr.1
      have UP := Lib.hid (Hand.unpack_any B cb (pageAt x.seen p) wr rr.2.2 rr.2.1 hby)
      clear rr hr hby HR
      go_wp2_with fail
      refine UP.out.mono ?_
      rintro e w4 ⟨v4, rfl, r4, b4⟩
      have R4 := Lib.hid r4
      have B4 := Lib.hid (((Only.of_below HB.out (fun _ => False)).step (Only.of_below b4 (fun _ => False)) (fun _ _ h => h)).below_all)
      have hbw : w.heap.size ≤ wr.heap.size := HB.out.size
      clear r4 b4 UP
      go_wp2
      go_ret3
      exact ⟨_, rfl, Kd.R_lower R4.out hbw, B4.out⟩
/-- An op: Kind, P, S, ID, Data. -/
abbrev OpP := Int × Int × Int × Int × List Int
abbrev kOpP : Kd OpP := Kd.pair (Kd.int .i64) (Kd.pair (Kd.int .i64) (Kd.pair (Kd.int .i64) (Kd.pair (Kd.int .u32) (Kd.slice 5 (Kd.int .u8)))))
def OpPOk (o : OpP) : Prop := (0 ≤ o.2.2.2.1 ∧ o.2.2.2.1 < 4294967296) ∧ ∀ y ∈ o.2.2.2.2, 0 ≤ y ∧ y < 256
/-- A write that is carried out. -/
def fitsP (m : Nat) (o : OpP) : Prop := 0 ≤ o.2.1 ∧ o.2.1 < (m : Int) ∧ o.2.2.2.2.length ≤ 116
instance (m : Nat) (o : OpP) : Decidable (fitsP m o) := by unfold fitsP; exact inferInstance
/-- Of each page the last write, and one. -/
def lastsN (m : Nat) (list : List OpP) : Nat → List Int
  | 0 => List.replicate m 0
  | j + 1 => match list[j]? with
    | some o => if fitsP m o then (lastsN m list j).set o.2.1.toNat ((j : Int) + 1) else lastsN m list j
    | none => lastsN m list j
/-- What the disk holds behind the first j ops. -/
structure PgInv (n : Nat) (list : List OpP) (j : Nat) (x : DV) : Prop where
  good : Dk.Good x n
  life : x.life = -1
  plen : x.pend.length ≤ 4 * j
  page : ∀ p, p < n / 4 → ((lastsN (n / 4) list j)[p]? = some 0 ∧ pageAt x.seen p = Hand.zeros 128) ∨
    ∃ k o, k < j ∧ (lastsN (n / 4) list j)[p]? = some ((k : Int) + 1) ∧ list[k]? = some o ∧ o.2.2.2.2.length ≤ 116 ∧ pageAt x.seen p = Hand.packed o.2.2.2.1 o.2.2.2.2
theorem pageAt_same {l b : List Int} {p n : Nat} (hl : l.length = n * 32) (hp : p < n / 4) (hb : b.length = 128) : pageAt (splice l (128 * p) b) p = b := by
  unfold pageAt splice
  rw [List.drop_append_of_le_length (by simp; omega), List.drop_of_length_le (by simp; omega), List.nil_append, List.take_append_of_le_length (by omega), List.take_of_length_le (by omega)]
/-- Ops handed in. -/
structure ScriptP (w : World) (A : Option Addr) (c : Nat) (l : List OpP) : Prop where
  cells : kOpP.C w A l.length l
  cap : l.length ≤ c
  ok : ∀ o ∈ l, OpPOk o
  size : l.length ≤ 1048576
  each : ∀ o ∈ l, o.2.2.2.2.length ≤ 140737488351232
/-- What Write answers. -/
def wres (m : Nat) (p : Int) (l : Nat) : Int := if 0 ≤ p ∧ p < (m : Int) then (if l ≤ 116 then 0 else 11) else 4
end Go.Proofs.Ytochnokfcfmgnaa.Pg
end

section
/- Seat F: a store of pages: what it is, and how it lies in memory. -/
namespace Go.Proofs.Ytochnokfcfmgnaa.St
open Go Go.RowKit Go.Proofs.Ytochnokfcfmgnaa.Mem Go.Proofs.YtochnokfcfmgnaaW.PrintWords Go.Proofs.Ytochnokfcfmgnaa.Dk Go.Maps Go.ChangeMaps Go.Proofs.Ytochnokfcfmgnaa.Sh
set_option linter.unusedVariables false
set_option linter.unusedSimpArgs false
set_option maxRecDepth 100000
set_option maxHeartbeats 1000000
/-- A list of numbers that lies still, in blocks that satisfy ok. -/
def Row (w : World) (ok : Nat → Prop) (k : IntKind) (v : Value) (xs : List Int) : Prop :=
  ∃ A c, v = .slice A xs.length c ∧ xs.length ≤ c ∧ xs.length ≤ 100000 ∧ ((A = none ∧ c = 0) ∨ ∃ b o, A = some ⟨b, o, none⟩ ∧ ok b ∧ b < w.heap.size ∧ ∀ j (hj : j < xs.length), w.cell? ⟨b, o + j, none⟩ = some (.int k xs[j]))
section
variable {w w' : World} {ok ok' S : Nat → Prop} {k : IntKind} {v : Value} {xs : List Int}
theorem Row.nil (w : World) (ok : Nat → Prop) (k : IntKind) : Row w ok k (.slice none 0 0) [] := ⟨none, 0, rfl, Nat.le_refl _, by simp, .inl ⟨rfl, rfl⟩⟩
theorem Row.mono (h : Row w ok k v xs) (hm : ∀ b, b < w.heap.size → ok b → ok' b) : Row w ok' k v xs := by
  obtain ⟨A, c, rfl, h1, h2, h3⟩ := h
  refine ⟨A, c, rfl, h1, h2, h3.imp id ?_⟩
  rintro ⟨b, o, rfl, hb, hl, hc⟩
  exact ⟨b, o, rfl, hm b hl hb, hl, hc⟩
theorem Row.keep (h : Row w ok k v xs) (ho : Only w w' S) (hS : ∀ b, ok b → ¬ S b) : Row w' ok k v xs := by
  obtain ⟨A, c, rfl, h1, h2, h3⟩ := h
  refine ⟨A, c, rfl, h1, h2, h3.imp id ?_⟩
  rintro ⟨b, o, rfl, hb, hl, hc⟩
  exact ⟨b, o, rfl, hb, Nat.lt_of_lt_of_le hl ho.size, fun j hj => (ho.cell (p := ⟨b, o + j, none⟩) hl (hS b hb)).trans (hc j hj)⟩
theorem Row.len (h : Row w ok k v xs) : xs.length ≤ 100000 := by obtain ⟨_, _, _, _, h, _⟩ := h; exact h
/-- A row, as it is handed over. -/
theorem Row.reads (h : Row w ok k v xs) : ∃ A c, v = .slice A xs.length c ∧ xs.length ≤ c ∧ (Kd.int k).C w A xs.length xs ∧ ((A = none ∧ c = 0) ∨ ∃ b o, A = some ⟨b, o, none⟩) := by
  obtain ⟨A, c, rfl, h1, h2, h3⟩ := h
  refine ⟨A, c, rfl, h1, ⟨rfl, by omega, fun hp => ?_⟩, ?_⟩
  · rcases h3 with ⟨rfl, rfl⟩ | ⟨b, o, rfl, _, _, hc⟩
    · omega
    · refine ⟨_, rfl, fun j p hj => ?_⟩
      obtain ⟨hjl, rfl⟩ := List.getElem?_eq_some_iff.1 hj
      refine ⟨[.int k xs[j]], rfl, rfl, fun i u hu => ?_⟩
      match i, hu with
      | 0, hu =>
        injection hu with hu
        rw [← hu, add_flat]
        have e : (Kd.int k).sz = 1 := rfl
        rw [e, Nat.mul_one, Nat.add_zero]
        exact hc j hjl
  · rcases h3 with h | ⟨b, o, rfl, _⟩
    · exact .inl h
    · exact .inr ⟨b, o, rfl⟩
/-- A row of the program's own. -/
theorem Row.of_R {base e : Nat} (h : (Kd.int k).R e w base ok v xs) (hl : xs.length ≤ 100000) : Row w ok k v xs := by
  obtain ⟨A, c, rfl, hc, hC⟩ := Kd.R_reads h
  refine ⟨A, c, rfl, hc, hl, ?_⟩
  obtain ⟨cells, hown, hreps⟩ := h.2
  rcases hown.2 with ⟨hv, h0⟩ | ⟨g, cap, cur, hv, hbase, hb, h1, h2, h3, h4⟩
  · injection hv with hA _ hc
    exact .inl ⟨hA, hc⟩
  · injection hv with hA _ hc
    subst hA
    have hgl := (Array.getElem?_eq_some_iff.1 hb).1
    refine .inr ⟨g, 0, rfl, ?_, hgl, fun j hj => ?_⟩
    · exact h.1 g rfl
    · obtain ⟨ad, hA, hcell⟩ := hC.2.2 (by omega)
      injection hA with hA
      subst hA
      obtain ⟨cs, h5, h6, h7⟩ := hcell j xs[j] (List.getElem?_eq_getElem hj)
      have h8 := h7 0 (.int k xs[j]) (by have h9 : cs = [.int k xs[j]] := h6; rw [h9]; rfl)
      rw [add_flat] at h8
      have e : (Kd.int k).sz = 1 := rfl
      rw [e, Nat.mul_one, Nat.add_zero] at h8
      exact h8
end
/-- What a store's pages are: where each lies (0: nowhere yet), and its data. -/
abbrev PM := Nat → Option (Nat × List Int)
def PgAt (w : World) (ok : Nat → Prop) (o : Option Value) (p : Option (Nat × List Int)) : Prop :=
  match p with
  | none => o = none
  | some (a, d) => ∃ v, o = some (.agg #[.int .i64 (a : Int), v]) ∧ Row w ok .u8 v d
/-- Block b is a map of pages. -/
def MapAt (w : World) (ok : Nat → Prop) (b : Nat) (f : PM) : Prop :=
  ∃ m, Mp w b m ∧ (∀ i : Int, (m i).isSome = true → 0 ≤ i ∧ i < ((728 : Nat) : Int)) ∧ ∀ i : Nat, PgAt w ok (m (i : Int)) (f i)
section
variable {w w' : World} {ok ok' S : Nat → Prop} {b : Nat} {f : PM}
theorem PgAt.mono {o : Option Value} {p : Option (Nat × List Int)} (h : PgAt w ok o p) (hm : ∀ b, b < w.heap.size → ok b → ok' b) : PgAt w ok' o p := by
  cases p with
  | none => exact h
  | some p => obtain ⟨v, h1, h2⟩ := h; exact ⟨v, h1, h2.mono hm⟩
theorem PgAt.keep {o : Option Value} {p : Option (Nat × List Int)} (h : PgAt w ok o p) (ho : Only w w' S) (hS : ∀ b, ok b → ¬ S b) : PgAt w' ok o p := by
  cases p with
  | none => exact h
  | some p => obtain ⟨v, h1, h2⟩ := h; exact ⟨v, h1, h2.keep ho hS⟩
theorem MapAt.mono (h : MapAt w ok b f) (hm : ∀ b, b < w.heap.size → ok b → ok' b) : MapAt w ok' b f := by
  obtain ⟨m, h1, h2, h3⟩ := h
  exact ⟨m, h1, h2, fun i => (h3 i).mono hm⟩
theorem MapAt.keep (h : MapAt w ok b f) (ho : Only w w' S) (hS : ∀ b, ok b → ¬ S b) (hb : ¬ S b) : MapAt w' ok b f := by
  obtain ⟨m, h1, h2, h3⟩ := h
  exact ⟨m, h1.step ho hb, h2, fun i => (h3 i).keep ho hS⟩
theorem MapAt.lt (h : MapAt w ok b f) : b < w.heap.size := by obtain ⟨m, h1, _⟩ := h; exact h1.lt
theorem MapAt.out (h : MapAt w ok b f) {i : Nat} (hi : 728 ≤ i) : f i = none := by
  obtain ⟨m, h1, h2, h3⟩ := h
  have h4 := h3 i
  cases hf : f i with
  | none => rfl
  | some p =>
    rw [hf] at h4
    obtain ⟨v, h5, _⟩ := h4
    have := (h2 i (by rw [h5]; rfl)).2
    omega
theorem MapAt.empty (h : w.heap[b]? = some (.map #[] 0)) (ok : Nat → Prop) : MapAt w ok b (fun _ => none) := ⟨fun _ => none, Mp.made_ w h, fun i hi => by simp at hi, fun i => rfl⟩
end
/-- A store. -/
structure SV where
  x : DV
  root : Int
  epoch : Int
  tabs : List Int
  kept : PM
  now : PM
/-- What every store keeps. -/
structure Ok (n : Nat) (S : SV) : Prop where
  good : Dk.Good S.x n
  life : S.x.life = -1
  pend : S.x.pend = []
  n1 : 12 ≤ n
  n2 : n ≤ 400
  root : S.root = 0 ∨ S.root = 1
  ep : 1 ≤ S.epoch
  tabs : ∀ t ∈ S.tabs, 2 ≤ t ∧ t < ((n / 4 : Nat) : Int)
  kept : ∀ i p, S.kept i = some p → i < 728 ∧ 2 ≤ p.1 ∧ p.1 < n / 4 ∧ p.2.length ≤ 116 ∧ ∀ y ∈ p.2, 0 ≤ y ∧ y < 256
  now : ∀ i p, S.now i = some p → i < 728 ∧ (p.1 = 0 ∨ S.kept i = some p) ∧ p.2.length ≤ 116 ∧ ∀ y ∈ p.2, 0 ≤ y ∧ y < 256
/-- How it lies in memory. Owners: 1 its disk; 2 rows that lie still; 3 its block and its maps; 0 others. -/
structure St (w : World) (own : Nat → Nat) (base g s : Nat) (S : SV) : Prop where
  hb : base ≤ w.heap.size
  lo : ∀ k, own k ≠ 0 → base ≤ k
  disk : IsDisk w base (fun k => own k = 1) g S.x
  blk : ∃ bk bn tv, Blk w s 76 [.pointer (some ⟨g, 0, none⟩), .int .i64 S.root, .int .u64 S.epoch, tv, .map (some bk), .map (some bn), .bool false] ∧ own s = 3 ∧ own bk = 3 ∧ own bn = 3 ∧ bk ≠ bn ∧
    Row w (fun k => own k = 2) .i64 tv S.tabs ∧ MapAt w (fun k => own k = 2) bk S.kept ∧ MapAt w (fun k => own k = 2) bn S.now
def upd (own : Nat → Nat) (N j : Nat) : Nat → Nat := fun k => if k < N then own k else j
theorem upd_lt {own : Nat → Nat} {N j k : Nat} (h : k < N) : upd own N j k = own k := if_pos h
theorem upd_ge {own : Nat → Nat} {N j k : Nat} (h : N ≤ k) : upd own N j k = j := if_neg (by omega)
section
variable {w w' : World} {own : Nat → Nat} {base g s : Nat} {S : SV}
/-- Others have turned their own blocks; the new ones are j's. -/
theorem St.keep (h : St w own base g s S) {T : Nat → Prop} (ho : Only w w' T) (hT : ∀ k, own k = 1 ∨ own k = 2 ∨ own k = 3 → ¬ T k) (j : Nat) : St w' (upd own w.heap.size j) base g s S := by
  obtain ⟨bk, bn, tv, h1, h2, h3, h4, h5, h6, h7, h8⟩ := h.blk
  have lk := h7.lt
  have ln := h8.lt
  refine ⟨Nat.le_trans h.hb ho.size, fun k hk => ?_, (h.disk.bound.keep ho (fun k hk => hT k (.inl hk.1))).mono (fun k hk => by rw [upd_lt hk.2.2]; exact hk.1), bk, bn, tv, h1.keep ho (hT s (.inr (.inr h2))), by rw [upd_lt h1.lt]; exact h2, by rw [upd_lt lk]; exact h3, by rw [upd_lt ln]; exact h4, h5, ?_, ?_, ?_⟩
  · by_cases hk2 : k < w.heap.size
    · rw [upd_lt hk2] at hk; exact h.lo k hk
    · have := h.hb; omega
  · exact (h6.mono (ok' := fun k => own k = 2 ∧ k < w.heap.size) (fun b hb h => ⟨h, hb⟩)).keep ho (fun b hb => hT b (.inr (.inl hb.1))) |>.mono (fun b _ hb => by rw [upd_lt hb.2]; exact hb.1)
  · exact (h7.mono (ok' := fun k => own k = 2 ∧ k < w.heap.size) (fun b hb h => ⟨h, hb⟩)).keep ho (fun b hb => hT b (.inr (.inl hb.1))) (hT bk (.inr (.inr h3))) |>.mono (fun b _ hb => by rw [upd_lt hb.2]; exact hb.1)
  · exact (h8.mono (ok' := fun k => own k = 2 ∧ k < w.heap.size) (fun b hb h => ⟨h, hb⟩)).keep ho (fun b hb => hT b (.inr (.inl hb.1))) (hT bn (.inr (.inr h4))) |>.mono (fun b _ hb => by rw [upd_lt hb.2]; exact hb.1)
theorem St.below (h : St w own base g s S) (hb : Below w.heap.size w w') (j : Nat) : St w' (upd own w.heap.size j) base g s S := h.keep (Only.of_below hb (fun _ => False)) (fun _ _ h => h) j
end
end Go.Proofs.Ytochnokfcfmgnaa.St
end

section
/- Seat F: a store's check, Get, Put, Drop, Rollback, walked. -/
namespace Go.Proofs
open Go.Shelf
shelf_lay_g SlLaysW.n5 Slmc 5 at Try 47 as Try.cloneM
end Go.Proofs
namespace Go.Proofs.Ytochnokfcfmgnaa.St
open Go Go.RowKit Go.Proofs.Ytochnokfcfmgnaa.Mem Go.Proofs.YtochnokfcfmgnaaW.PrintWords Go.Proofs.Ytochnokfcfmgnaa.Dk Go.Maps Go.ChangeMaps Go.Proofs.Ytochnokfcfmgnaa.Sh
set_option linter.unusedVariables false
set_option linter.unusedSimpArgs false
set_option maxRecDepth 100000
set_option maxHeartbeats 4000000
def Flat (A : Option Addr) (c : Nat) : Prop := (A = none ∧ c = 0) ∨ ∃ b o, A = some ⟨b, o, none⟩
theorem int_at {w : World} {k : IntKind} {A : Option Addr} {n : Nat} {xs : List Int} (h : (Kd.int k).C w A n xs) (j : Nat) (hj : j < xs.length) : ∃ ad, A = some ad ∧ w.cell? (ad.add j) = some (.int k xs[j]) := by
  obtain ⟨ad, hA, hcell⟩ := h.2.2 (by have := h.1; omega)
  obtain ⟨cs, h5, h6, h7⟩ := hcell j xs[j] (List.getElem?_eq_getElem hj)
  have h9 : cs = [.int k xs[j]] := h6
  have h8 := h7 0 (.int k xs[j]) (by rw [h9]; rfl)
  have e : (Kd.int k).sz = 1 := rfl
  rw [e, Nat.mul_one, Nat.add_zero] at h8
  exact ⟨ad, hA, h8⟩
theorem clone_row (A : Option Addr) (c : Nat) (xs : List Int) (w : World) (hC : (Kd.int .u8).C w A xs.length xs) (hn : xs.length ≤ 140737488351232) (hfl : Flat A c) :
    Calls Try.prog 33 #[.slice A xs.length c] w fun e w' => ∃ v, e = .returned v ∧ (Kd.int .u8).R 5 w' w.heap.size (fun _ => True) v xs ∧ Below w.heap.size w w' := by
  rcases hfl with ⟨rfl, rfl⟩ | ⟨b, o, rfl⟩
  · obtain rfl : xs = [] := by
      rcases Nat.eq_zero_or_pos xs.length with h | h
      · exact List.eq_nil_of_length_eq_zero h
      · obtain ⟨ad, hA, _⟩ := int_at hC 0 h
        cases hA
    refine (AnyE.slices_Clone_nil Try.laysClone 0 0 w).mono ?_
    rintro e w' ⟨rfl, rfl⟩
    exact ⟨_, rfl, Kd.R_nil _ _ _ _ _, Below.refl _ _⟩
  · refine clone_any b o xs.length c xs w rfl hn (fun j v hv => ?_)
    have hj : j < xs.length := by have := (List.getElem?_eq_some_iff.1 hv).1; simpa [icells] using this
    rw [icells_get _ _ _ hj] at hv
    obtain ⟨ad, hA, hc⟩ := int_at hC j hj
    obtain rfl : (⟨b, o, none⟩ : Addr) = ad := by injection hA
    rw [hc, ← hv]
theorem check_bad (g : Nat) (a b c d e f : Value) (i : Int) (w : World) (h : Blk w g 76 [a, b, c, d, e, f, .bool false]) (hi : i < 0 ∨ 728 ≤ i) :
    Calls Try.prog 32 #[.pointer (some ⟨g, 0, none⟩), .int .i64 i] w fun e w' => e = .returned (.int .i64 4) ∧ w' = w := by
  have h6 := h.cell_at 6 _ rfl
  by_cases g0 : i < 0
  · have g1 : decide (i < 0) = true := decide_eq_true g0
    go_enter Try.func32, Try.ntmps32
    go_wp2
    all_goals go_ret
    all_goals exact ⟨rfl, rfl⟩
  · have g1 : decide (i < 0) = false := decide_eq_false g0
    have g3 : 728 ≤ i := by omega
    have g2 : decide (728 ≤ i) = true := decide_eq_true g3
    go_enter Try.func32, Try.ntmps32
    go_wp2
    all_goals go_ret
    all_goals exact ⟨rfl, rfl⟩
theorem clone_map (b : Nat) (m : Int → Option Value) (w : World) (h : Mp w b m) : Calls Try.prog 47 #[.map (some b)] w fun e w' => e = .returned (.map (some w.heap.size)) ∧ Mp w' w.heap.size m ∧ Below w.heap.size w w' := by
  obtain ⟨D, hown, hD⟩ := h
  have hcon := AnyW.maps_Clone_owns Try.cloneM 3 vR b _ D w hown
  change Calls Try.prog 47 _ _ _ at hcon
  refine hcon.mono ?_
  rintro e w' ⟨rfl, h1, _, hB⟩
  exact ⟨rfl, ⟨D, h1, hD⟩, hB⟩
/-- What Get answers. -/
def getV (S : SV) (i : Int) : List Int × Int := if i < 0 ∨ 728 ≤ i then ([], 4) else match S.now i.toNat with | none => ([], 6) | some p => (p.2, 0)
theorem get_c {w : World} {own : Nat → Nat} {base g s : Nat} {S : SV} (h : St w own base g s S) (i : Int) :
    Calls Try.prog 11 #[.pointer (some ⟨s, 0, none⟩), .int .i64 i] w fun e w' => ∃ v, e = .returned (.tuple #[v, .int .i64 (getV S i).2]) ∧ (Kd.int .u8).R 5 w' w.heap.size (fun _ => True) v (getV S i).1 ∧ Below w.heap.size w w' := by
  obtain ⟨bk, bn, tv, hs, _, _, _, _, _, _, ⟨m, hm, hdom, hat⟩⟩ := h.blk
  by_cases hi : i < 0 ∨ 728 ≤ i
  · have HCk := Lib.hid (check_bad s _ _ _ _ _ _ i w hs hi)
    have hg : getV S i = ([], 4) := by unfold getV; rw [if_pos hi]
    rw [hg]
    clear hs hm hdom hat h
    go_enter Try.func11, Try.ntmps11
    go_wp2_with (first
      | (go_at_call 32; with_reducible refine HCk.out.mono ?_; rintro e wz ⟨rfl, hwz⟩; rw [hwz]; clear hwz)
      | fail)
    go_ret2
    exact ⟨_, rfl, Kd.R_nil _ _ _ _ _, Below.refl _ _⟩
  · have HCk := Lib.hid (check_ok s _ _ _ _ _ _ i w hs (by omega) (by omega))
    obtain ⟨q, rfl⟩ : ∃ q : Nat, i = (q : Int) := ⟨i.toNat, by omega⟩
    have hrun := hm.look_ok (q : Int) (Rg.of (by omega) (by omega))
    have hq := hat q
    have c5 := hs.cell_at 5 _ rfl
    cases hf : S.now q with
    | none =>
      rw [hf] at hq
      have hq : m (q : Int) = none := hq
      have hg : getV S (q : Int) = ([], 6) := by unfold getV; rw [if_neg hi, Int.toNat_natCast, hf]
      rw [hg]
      rw [hq] at hrun
      simp only [Option.getD_none, Option.isSome_none] at hrun
      clear hs hm hdom hat h hq hi hf hg
      go_enter Try.func11, Try.ntmps11
      go_wp2_with (first
        | (go_at_call 32; with_reducible refine HCk.out.mono ?_; rintro e wz ⟨rfl, hwz⟩; rw [hwz]; clear hwz)
        | fail)
      go_ret2
      exact ⟨_, rfl, Kd.R_nil _ _ _ _ _, (Below.refl _ w).alloc (Nat.le_refl _) _⟩
    | some p =>
      obtain ⟨a, d⟩ := p
      rw [hf] at hq
      obtain ⟨v, hv, hrow⟩ := hq
      have hg : getV S (q : Int) = (d, 0) := by unfold getV; rw [if_neg hi, Int.toNat_natCast, hf]
      rw [hg]
      rw [hv] at hrun
      simp only [Option.getD_some, Option.isSome_some] at hrun
      obtain ⟨A, c, rfl, hdc, hC, hfl⟩ := hrow.reads
      have HL := Lib.hid hrow.len
      have HCl := Lib.hid (fun W (hW : Below w.heap.size w W) => clone_row A c d W (Kd.C_below hC hW) (by have := HL.out; omega) hfl)
      clear hs hm hdom hat h hi hf hg hv hrow hC hfl
      go_enter Try.func11, Try.ntmps11
      go_wp2_with (first
        | (go_at_call 32; with_reducible refine HCk.out.mono ?_; rintro e wz ⟨rfl, hwz⟩; rw [hwz]; clear hwz)
        | (go_at_call 33; refine (HCl.out _ ((Below.refl _ w).alloc (Nat.le_refl _) _)).mono ?_; rintro e2 w2 ⟨v, rfl, r2, b2⟩; have R2 := Lib.hid r2; have B2 := Lib.hid b2; clear r2 b2)
        | fail)
      go_ret2
      exact ⟨_, rfl, Kd.R_lower R2.out (by simp), ((Below.refl _ w).alloc (Nat.le_refl _) _).trans (B2.out.mono (by simp))⟩
/-- The map of what is put has another content. -/
theorem St.turn_now {w w' : World} {own : Nat → Nat} {base g s bk bn : Nat} {tv : Value} {S : SV} (h : St w own base g s S) (h1 : Blk w s 76 [.pointer (some ⟨g, 0, none⟩), .int .i64 S.root, .int .u64 S.epoch, tv, .map (some bk), .map (some bn), .bool false]) (h2 : own s = 3) (h3 : own bk = 3) (h4 : own bn = 3) (h5 : bk ≠ bn)
    (h6 : Row w (fun k => own k = 2) .i64 tv S.tabs) (h7 : MapAt w (fun k => own k = 2) bk S.kept) (hbn : bn < w.heap.size) (hsn : s ≠ bn) (ho : Only w w' (fun k => k = bn)) (f : PM) (hn : MapAt w' (fun k => upd own w.heap.size 2 k = 2) bn f) : St w' (upd own w.heap.size 2) base g s { S with now := f } := by
  have lk := h7.lt
  refine ⟨Nat.le_trans h.hb ho.size, fun k hk => ?_, (h.disk.bound.keep ho (fun k hk e => by rw [e, h4] at hk; exact absurd hk.1 (by decide))).mono (fun k hk => by rw [upd_lt hk.2.2]; exact hk.1), bk, bn, tv, h1.keep ho hsn, by rw [upd_lt h1.lt]; exact h2, by rw [upd_lt lk]; exact h3, by rw [upd_lt hbn]; exact h4, h5, ?_, ?_, hn⟩
  · by_cases hk2 : k < w.heap.size
    · rw [upd_lt hk2] at hk; exact h.lo k hk
    · have := h.hb; omega
  · exact (h6.mono (ok' := fun k => own k = 2 ∧ k < w.heap.size) (fun b hb h => ⟨h, hb⟩)).keep ho (fun b hb e => by rw [e, h4] at hb; exact absurd hb.1 (by decide)) |>.mono (fun b _ hb => by rw [upd_lt hb.2]; exact hb.1)
  · exact (h7.mono (ok' := fun k => own k = 2 ∧ k < w.heap.size) (fun b hb h => ⟨h, hb⟩)).keep ho (fun b hb e => by rw [e, h4] at hb; exact absurd hb.1 (by decide)) h5 |>.mono (fun b _ hb => by rw [upd_lt hb.2]; exact hb.1)
/-- One entry is other. -/
theorem MapAt.turn {w w' : World} {own : Nat → Nat} {bn : Nat} {m : Int → Option Value} {f : PM} (hdom : ∀ i : Int, (m i).isSome = true → 0 ≤ i ∧ i < ((728 : Nat) : Int)) (hat : ∀ i : Nat, PgAt w (fun k => own k = 2) (m (i : Int)) (f i)) (h4 : own bn = 3) (ho : Only w w' (fun k => k = bn))
    (q : Nat) (hq : q < 728) (o : Option Value) (p : Option (Nat × List Int)) (hm : Mp w' bn (fun x => if x = (q : Int) then o else m x)) (hp : PgAt w' (fun k => upd own w.heap.size 2 k = 2) o p) :
    MapAt w' (fun k => upd own w.heap.size 2 k = 2) bn (fun j => if j = q then p else f j) := by
  refine ⟨_, hm, fun i hi => ?_, fun i => ?_⟩
  · by_cases e : i = (q : Int)
    · omega
    · exact hdom i (by have : (if i = (q : Int) then o else m i) = m i := if_neg e
                       rw [this] at hi; exact hi)
  · show PgAt w' (fun k => upd own w.heap.size 2 k = 2) (if (i : Int) = (q : Int) then o else m (i : Int)) (if i = q then p else f i)
    by_cases e : i = q
    · subst e
      rw [if_pos rfl, if_pos rfl]
      exact hp
    · have e2 : ¬ (i : Int) = (q : Int) := by omega
      rw [if_neg e2, if_neg e]
      exact ((hat i).mono (ok' := fun k => own k = 2 ∧ k < w.heap.size) (fun b hb h => ⟨h, hb⟩)).keep ho (fun b hb e => by rw [e, h4] at hb; exact absurd hb.1 (by decide)) |>.mono (fun b _ hb => by rw [upd_lt hb.2]; exact hb.1)
def putE (i : Int) (d : List Int) : Int := if i < 0 ∨ 728 ≤ i then 4 else if 116 < d.length then 11 else 0
def putV (S : SV) (i : Int) (d : List Int) : SV := if putE i d = 0 then { S with now := fun j => if j = i.toNat then some (0, d) else S.now j } else S
theorem put_c {w : World} {own : Nat → Nat} {base g s : Nat} {S : SV} (h : St w own base g s S) (i : Int) (A : Option Addr) (c : Nat) (d : List Int) (hC : (Kd.int .u8).C w A d.length d) (hfl : Flat A c) (hl : d.length ≤ 140737488351232) :
    Calls Try.prog 12 #[.pointer (some ⟨s, 0, none⟩), .int .i64 i, .slice A d.length c] w fun e w' => e = .returned (.int .i64 (putE i d)) ∧ St w' (upd own w.heap.size 2) base g s (putV S i d) ∧ Only w w' (fun k => own k = 3) := by
  have H0 := Lib.hid h
  obtain ⟨bk, bn, tv, hs, h2, h3, h4, h5, h6, h7, ⟨m, hm, hdom, hat⟩⟩ := h.blk
  have hli : (d.length : Int) ≤ 140737488351232 := by omega
  by_cases hi : i < 0 ∨ 728 ≤ i
  · have HCk := Lib.hid (check_bad s _ _ _ _ _ _ i w hs hi)
    have he : putE i d = 4 := by unfold putE; rw [if_pos hi]
    have hv : putV S i d = S := by unfold putV; rw [he]; rfl
    rw [he, hv]
    clear hs hm hdom hat h h6 h7 he hv hi
    go_enter Try.func12, Try.ntmps12
    go_wp2_with (first
      | (go_at_call 32; with_reducible refine HCk.out.mono ?_; rintro e wz ⟨rfl, hwz⟩; rw [hwz]; clear hwz)
      | fail)
    go_ret
    exact ⟨rfl, H0.out.below (Below.refl _ _) 2, Only.refl _ _⟩
  · have HCk := Lib.hid (check_ok s _ _ _ _ _ _ i w hs (by omega) (by omega))
    obtain ⟨q, rfl⟩ : ∃ q : Nat, i = (q : Int) := ⟨i.toNat, by omega⟩
    have hq : q < 728 := by omega
    have hqi : (q : Int) < 728 := by omega
    by_cases hd : 116 < d.length
    · have he : putE (q : Int) d = 11 := by unfold putE; rw [if_neg hi, if_pos hd]
      have hv : putV S (q : Int) d = S := by unfold putV; rw [he]; rfl
      have hdi : (116 : Int) < (d.length : Int) := by omega
      rw [he, hv]
      clear hs hm hdom hat h h6 h7 he hv hi
      go_enter Try.func12, Try.ntmps12
      go_wp2_with (first
        | (go_at_call 32; with_reducible refine HCk.out.mono ?_; rintro e wz ⟨rfl, hwz⟩; rw [hwz]; clear hwz)
        | fail)
      go_ret
      exact ⟨rfl, H0.out.below (Below.refl _ _) 2, Only.refl _ _⟩
    · have he : putE (q : Int) d = 0 := by unfold putE; rw [if_neg hi, if_neg hd]
      have hv : putV S (q : Int) d = { S with now := fun j => if j = q then some (0, d) else S.now j } := by unfold putV; rw [if_pos he]; rfl
      have hdi : ¬ (116 : Int) < (d.length : Int) := by omega
      have hdi2 : (d.length : Int) ≤ 116 := by omega
      rw [he, hv]
      have c5 := hs.cell_at 5 _ rfl
      have HS := Lib.hid hs
      have HM := Lib.hid hm
      have HDOM := Lib.hid hdom
      have HAT := Lib.hid hat
      have H6 := Lib.hid h6
      have H7 := Lib.hid h7
      have HSN := Lib.hid (hm.ne hs)
      have HCl := Lib.hid (clone_row A c d w.drew (Kd.C_drew hC) hl hfl)
      have BD := Lib.hid (((Only.refl w (fun _ => False)).drew).below_all)
      have HRG := Lib.hid (Rg.of (i := (q : Int)) (by omega) (by omega))
      have HLT := Lib.hid (show ∀ w', Below w.heap.size w w' → w'.cell? ⟨s, 5, none⟩ = some (.map (some bn)) from fun w' hb => (hb.cell (World.block_lt_of_cell? _ _ c5)).trans c5)
      clear hs hm hdom hat h h6 h7 he hv hi
      go_enter Try.func12, Try.ntmps12
      go_wp2_with (first
        | (go_at_call 32; with_reducible refine HCk.out.mono ?_; rintro e wz ⟨rfl, hwz⟩; rw [hwz]; clear hwz)
        | fail)
      go_region_held3 (fun w' => w'.cell? ⟨s, 5, none⟩ = some (.map (some bn))) (first | (exact HLT.out _ (by first | exact BD.out | exact B2.out)) | exact C3.out) (first
        | (go_at_call 33; refine HCl.out.mono ?_; rintro e2 w2 ⟨v, rfl, r2, b2⟩; obtain ⟨A2, k2, rfl⟩ := Kd.R_slice r2; clear HCl; have R2 := Lib.hid r2; have B2 := Lib.hid (BD.out.trans (b2.mono BD.out.size)); obtain ⟨w3, hrun3, hm3, ho3⟩ := (HM.out.below B2.out HM.out.lt).update 728 HDOM.out (by decide) (q : Int) HRG.out (.agg #[.int .i64 0, .slice A2 d.length k2]); have M3 := Lib.hid hm3; have O3 := Lib.hid ho3; have C3 := Lib.hid (show w3.cell? ⟨s, 5, none⟩ = some (.map (some bn)) from (ho3.cell (p := ⟨s, 5, none⟩) (World.block_lt_of_cell? _ _ (HLT.out _ B2.out)) HSN.out).trans (HLT.out _ B2.out)); clear r2 b2 hm3 ho3)
        | fail)
      all_goals
        have O4 : Hid (Only w w3 (fun k => k = bn)) := Lib.hid ((Only.of_below B2.out (fun k => k = bn)).step O3.out (fun k _ h => h))
        have R3 : Hid (Row w3 (fun k => upd own w.heap.size 2 k = 2) .u8 (.slice A2 d.length k2) d) := Lib.hid (((Row.of_R (Kd.R_bound R2.out) (by omega)).keep O3.out (fun b hb e => by have h1 := hb.2.1; have h2 := HM.out.lt; have h3 : w.drew.heap.size = w.heap.size := rfl; omega)).mono (fun b _ hb => upd_ge hb.2.1))
        clear hrun3
        go_wp2_with fail
        go_ret
        exact ⟨rfl, H0.out.turn_now HS.out h2 h3 h4 h5 H6.out H7.out HM.out.lt HSN.out O4.out _ (MapAt.turn HDOM.out HAT.out h4 O4.out q hq _ (some (0, d)) M3.out ⟨_, rfl, R3.out⟩), O4.out.mono (fun k _ e => by rw [e]; exact h4)⟩
def dropE (S : SV) (i : Int) : Int := if i < 0 ∨ 728 ≤ i then 4 else if S.now i.toNat = none then 6 else 0
def dropV (S : SV) (i : Int) : SV := if dropE S i = 0 then { S with now := fun j => if j = i.toNat then none else S.now j } else S
theorem drop_c {w : World} {own : Nat → Nat} {base g s : Nat} {S : SV} (h : St w own base g s S) (i : Int) :
    Calls Try.prog 15 #[.pointer (some ⟨s, 0, none⟩), .int .i64 i] w fun e w' => e = .returned (.int .i64 (dropE S i)) ∧ St w' (upd own w.heap.size 2) base g s (dropV S i) ∧ Only w w' (fun k => own k = 3) := by
  have H0 := Lib.hid h
  obtain ⟨bk, bn, tv, hs, h2, h3, h4, h5, h6, h7, ⟨m, hm, hdom, hat⟩⟩ := h.blk
  by_cases hi : i < 0 ∨ 728 ≤ i
  · have HCk := Lib.hid (check_bad s _ _ _ _ _ _ i w hs hi)
    have he : dropE S i = 4 := by unfold dropE; rw [if_pos hi]
    have hv : dropV S i = S := by unfold dropV; rw [he]; rfl
    rw [he, hv]
    clear hs hm hdom hat h h6 h7 he hv hi
    go_enter Try.func15, Try.ntmps15
    go_wp2_with (first
      | (go_at_call 32; with_reducible refine HCk.out.mono ?_; rintro e wz ⟨rfl, hwz⟩; rw [hwz]; clear hwz)
      | fail)
    go_ret
    exact ⟨rfl, H0.out.below (Below.refl _ _) 2, Only.refl _ _⟩
  · have HCk := Lib.hid (check_ok s _ _ _ _ _ _ i w hs (by omega) (by omega))
    obtain ⟨q, rfl⟩ : ∃ q : Nat, i = (q : Int) := ⟨i.toNat, by omega⟩
    have hq : q < 728 := by omega
    have c5 := hs.cell_at 5 _ rfl
    have hrun := hm.look_ok (q : Int) (Rg.of (by omega) (by omega))
    by_cases hf : S.now q = none
    · have he : dropE S (q : Int) = 6 := by unfold dropE; rw [if_neg hi, Int.toNat_natCast, if_pos hf]
      have hv : dropV S (q : Int) = S := by unfold dropV; rw [he]; rfl
      rw [he, hv]
      have hq2 := hat q
      rw [hf] at hq2
      have hq2 : m (q : Int) = none := hq2
      rw [hq2] at hrun
      simp only [Option.getD_none, Option.isSome_none] at hrun
      clear hs hm hdom hat h h6 h7 he hv hi hq2 hf
      go_enter Try.func15, Try.ntmps15
      go_wp2_with (first
        | (go_at_call 32; with_reducible refine HCk.out.mono ?_; rintro e wz ⟨rfl, hwz⟩; rw [hwz]; clear hwz)
        | fail)
      go_ret
      exact ⟨rfl, H0.out.below ((Below.refl _ w).alloc (Nat.le_refl _) _) 2, ((Only.refl w _).alloc _)⟩
    · have he : dropE S (q : Int) = 0 := by unfold dropE; rw [if_neg hi, Int.toNat_natCast, if_neg hf]
      have hv : dropV S (q : Int) = { S with now := fun j => if j = q then none else S.now j } := by unfold dropV; rw [if_pos he]; rfl
      rw [he, hv]
      obtain ⟨p, hp⟩ := Option.ne_none_iff_exists'.1 hf
      have hq2 := hat q
      rw [hp] at hq2
      obtain ⟨v, hv2, hrow⟩ := hq2
      obtain ⟨A, c, rfl, _⟩ := hrow.reads
      rw [hv2] at hrun
      simp only [Option.getD_some, Option.isSome_some] at hrun
      have BA := Lib.hid ((Below.refl w.heap.size w).alloc (Nat.le_refl _) (.cells #[.int .i64 (p.1 : Int), .slice A p.2.length c] 72))
      have c5b := (hs.alloc (.cells #[.int .i64 (p.1 : Int), .slice A p.2.length c] 72)).cell_at 5 _ rfl
      obtain ⟨w3, hdel, hm3, ho3⟩ := (hm.alloc (.cells #[.int .i64 (p.1 : Int), .slice A p.2.length c] 72)).delete (q : Int) (Rg.of (by omega) (by omega)) 0
      have HS := Lib.hid hs
      have HM := Lib.hid hm
      have HDOM := Lib.hid hdom
      have HAT := Lib.hid hat
      have H6 := Lib.hid h6
      have H7 := Lib.hid h7
      have HSN := Lib.hid (hm.ne hs)
      have M3 := Lib.hid hm3
      have O4 : Hid (Only w w3 (fun k => k = bn)) := Lib.hid (((Only.refl w (fun k => k = bn)).alloc _).step ho3 (fun k _ h => h))
      clear hs hm hdom hat h h6 h7 he hv hi hf hm3 ho3 hrow hv2 hp
      go_enter Try.func15, Try.ntmps15
      go_wp2_with (first
        | (go_at_call 32; with_reducible refine HCk.out.mono ?_; rintro e wz ⟨rfl, hwz⟩; rw [hwz]; clear hwz)
        | fail)
      go_ret
      exact ⟨rfl, H0.out.turn_now HS.out h2 h3 h4 h5 H6.out H7.out HM.out.lt HSN.out O4.out _ (MapAt.turn HDOM.out HAT.out h4 O4.out q hq none none M3.out rfl), O4.out.mono (fun k _ e => by rw [e]; exact h4)⟩
theorem rollback_c {w : World} {own : Nat → Nat} {base g s : Nat} {S : SV} (h : St w own base g s S) :
    Calls Try.prog 27 #[.pointer (some ⟨s, 0, none⟩)] w fun e w' => e = .returned (.int .i64 0) ∧ St w' (upd own w.heap.size 3) base g s { S with now := S.kept } ∧ Only w w' (fun k => own k = 3) := by
  have H0 := Lib.hid h
  obtain ⟨bk, bn, tv, hs, h2, h3, h4, h5, h6, h7, h8⟩ := h.blk
  have HCk := Lib.hid (check_ok s _ _ _ _ _ _ 0 w hs (by omega) (by omega))
  have c4 := hs.cell_at 4 _ rfl
  have HS := Lib.hid hs
  have H6 := Lib.hid h6
  have H7 := Lib.hid h7
  obtain ⟨m, hm, hdom, hat⟩ := h7
  have HM := Lib.hid hm
  have HDOM := Lib.hid hdom
  have HAT := Lib.hid hat
  have HCl := Lib.hid (clone_map bk m w hm)
  clear hs h h6 h8 hm hdom hat
  go_enter Try.func27, Try.ntmps27
  go_wp2_with (first
    | (go_at_call 32; with_reducible refine HCk.out.mono ?_; rintro e wz ⟨rfl, hwz⟩; rw [hwz]; clear hwz)
    | (go_at_call 47; with_reducible refine HCl.out.mono ?_; rintro e w2 ⟨rfl, hm2, b2⟩; have M2 := Lib.hid hm2; have B2 := Lib.hid b2; have S2 := Lib.hid (HS.out.below b2 HS.out.lt); have f2 := S2.out.frozen 5; have c5 := S2.out.cell_at 5 _ rfl; clear hm2 b2)
    | fail)
  go_ret
  have hsl := HS.out.lt
  have hsz := B2.out.size
  have O3 : Only w (w2.setCell ⟨s, 5, none⟩ (.map (some w.heap.size))) (fun k => k = s) := (Only.of_below B2.out (fun k => k = s)).setCell (fun _ => rfl) _
  have hbk := HM.out.lt
  have hks : bk ≠ s := fun e => HM.out.ne HS.out e.symm
  refine ⟨rfl, ⟨Nat.le_trans H0.out.hb O3.size, fun k hk => ?_, (H0.out.disk.bound.keep O3 (fun k hk e => by rw [e, h2] at hk; exact absurd hk.1 (by decide))).mono (fun k hk => by rw [upd_lt hk.2.2]; exact hk.1), bk, w.heap.size, tv, S2.out.set_ 5 _, by rw [upd_lt hsl]; exact h2, by rw [upd_lt hbk]; exact h3, upd_ge (Nat.le_refl _), by omega, ?_, ?_, ?_⟩, O3.mono (fun k _ e => by rw [e]; exact h2)⟩
  · by_cases hk2 : k < w.heap.size
    · rw [upd_lt hk2] at hk; exact H0.out.lo k hk
    · have := H0.out.hb; omega
  · exact (H6.out.mono (ok' := fun k => own k = 2 ∧ k < w.heap.size) (fun b hb h => ⟨h, hb⟩)).keep O3 (fun b hb e => by rw [e, h2] at hb; exact absurd hb.1 (by decide)) |>.mono (fun b _ hb => by rw [upd_lt hb.2]; exact hb.1)
  · exact (H7.out.mono (ok' := fun k => own k = 2 ∧ k < w.heap.size) (fun b hb h => ⟨h, hb⟩)).keep O3 (fun b hb e => by rw [e, h2] at hb; exact absurd hb.1 (by decide)) hks |>.mono (fun b _ hb => by rw [upd_lt hb.2]; exact hb.1)
  · refine ⟨m, M2.out.setCell (by show s ≠ w.heap.size; omega) _, HDOM.out, fun i => ?_⟩
    exact ((HAT.out i).mono (ok' := fun k => own k = 2 ∧ k < w.heap.size) (fun b hb h => ⟨h, hb⟩)).keep O3 (fun b hb e => by rw [e, h2] at hb; exact absurd hb.1 (by decide)) |>.mono (fun b _ hb => by rw [upd_lt hb.2]; exact hb.1)
end Go.Proofs.Ytochnokfcfmgnaa.St
end
