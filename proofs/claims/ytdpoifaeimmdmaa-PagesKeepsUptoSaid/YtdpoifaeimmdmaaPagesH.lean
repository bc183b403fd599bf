/- The contracts of pages.Pack and pages.Unpack, by hand. -/
import Derived.Test.YtdpoifaeimmdmaaPut32
import Derived.Test.YtdpoifaeimmdmaaPureSumPlays
namespace Go.Proofs.Ytdpoifaeimmdmaa.Hand
open Go.RowKit Go.Proofs.Ytdpoifaeimmdmaa.Mem Go.Proofs.Ytdpoifaeimmdmaa.Pure Go.Proofs.Ytdpoifaeimmdmaa.PSumPlays Go.Proofs.YtdpoifaeimmdmaaW.PrintWords
set_option linter.unusedVariables false
set_option linter.unusedSimpArgs false

/-- A row in the midst of a block that is known whole, as a row that is read. -/
theorem C_of_blk {w : World} {g o n : Nat} {t : TypeId} {k : IntKind} {xs : List Int} (hb : Blk w g t (icells k xs)) (h : o + n ≤ xs.length) (hx : xs.length ≤ 9223372036854775807) : (Kd.int k).C w (some ⟨g, o, none⟩) n ((xs.drop o).take n) := by
  have hl : ((xs.drop o).take n).length = n := by simp; omega
  refine ⟨hl, by omega, fun _ => ⟨_, rfl, fun j p hj => ⟨[.int k p], rfl, rfl, fun i u hu => ?_⟩⟩⟩
  match i, hu with
  | 0, hu =>
    simp at hu
    subst hu
    rw [add_flat, show (Kd.int k).sz = 1 from rfl, show o + (j * 1 + 0) = o + j by omega]
    have hjn : j < n := by
      have := (List.getElem?_eq_some_iff.1 hj).1
      omega
    rw [List.getElem?_take, if_pos hjn, List.getElem?_drop] at hj
    exact hb.cell_at _ _ (by simp [icells, hj])
theorem R_of_blk {w : World} {g base : Nat} {t : TypeId} {k : IntKind} {xs : List Int} {ok : Nat → Prop} (hb : Blk w g t (icells k xs)) (hg : base ≤ g) (hx : xs.length ≤ 9223372036854775807) (hok : ok g) :
    (Kd.int k).R t w base ok (.slice (some ⟨g, 0, none⟩) xs.length xs.length) xs := by
  refine Kd.R_of_own ⟨by simp [encs], .inr ⟨g, xs.length, (icells k xs).toArray, rfl, hg, hb, Nat.le_refl _, by unfold maxLen; omega, by simp [icells], by rw [Nat.mul_one]; exact List.take_of_length_le (by simp [icells])⟩⟩ (fun k hk => ?_)
  have : g = k := by simpa [Value.ownBlock] using hk
  subst this
  exact hok
theorem sum_any (A : Option Addr) (n c : Nat) (xs : List Int) (w : World) (hr : (Kd.int .u8).C w A n xs) (hc : n ≤ c) (hx : ∀ x ∈ xs, 0 ≤ x ∧ x < 256) (hn : xs.length ≤ 140737488351232) :
    Calls Try.prog 15 #[.slice A n c] w fun e w' => e = .returned (.int .u32 (sumOf xs)) ∧ Drawn0 w w' := by
  obtain rfl : xs.length = n := hr.1
  exact sum_Sum.calls (10 * xs.length + 1) A c xs (sumOf xs) w hr hc (sum_eq xs hx hn _ (Nat.le_refl _))
theorem info5 : (Try.prog.info? 5).map (fun i => (i.zero, i.size, i.bytes)) = some (some (.int .u8 0), 1, 1) := by kernel_rfl

def zeros (n : Nat) : List Int := List.replicate n 0
theorem zeros_length (n : Nat) : (zeros n).length = n := by simp [zeros]
/-- What stands behind the sum. -/
def restOf (id : Int) (data : List Int) : List Int := le32 id ++ (le32 data.length ++ (data ++ zeros (116 - data.length)))
def packed (id : Int) (data : List Int) : List Int := le32 (sumOf (restOf id data)) ++ restOf id data

theorem made_zeros (n : Nat) : madeCells #[.int .u8 0] n = (icells .u8 (zeros n)).toArray := by
  apply Array.ext
  · simp [madeCells, icells, zeros]
  · intro i h1 h2
    simp [madeCells, icells, zeros]
    rw [Nat.mod_one]; rfl
theorem make_zeros (n : Nat) (hn : n ≤ 65536) (w : World) : (Instr.makeSlice 22 (.int .i64 (n : Int)) (.int .i64 (n : Int))).run Try.prog w = .ok (.slice (some ⟨w.heap.size, 0, none⟩) n n) (w.alloc (.cells (icells .u8 (zeros n)).toArray 5)) := by
  have := run_make_row' (P := Try.prog) 22 5 (.int .u8 0) 1 Try.underlying22 info5 rfl .i64 .i64 n (by omega) (by omega) w
  rw [made_zeros] at this
  exact this
theorem make128 (w : World) : (Instr.makeSlice 22 (.int .i64 128) (.int .i64 128)).run Try.prog w = .ok (.slice (some ⟨w.heap.size, 0, none⟩) 128 128) (w.alloc (.cells (icells .u8 (zeros 128)).toArray 5)) := make_zeros 128 (by omega) w

theorem sumOf_range (xs : List Int) : 0 ≤ sumOf xs ∧ sumOf xs < 4294967296 := by
  unfold sumOf
  have := (BitVec.allOnes 32 ^^^ Crc.crc (BitVec.allOnes 32) xs).isLt
  omega

theorem splice_mid {α : Type} (a b c d : List α) (o : Nat) (ho : o = a.length) (h : d.length = b.length) : splice (a ++ (b ++ c)) o d = a ++ (d ++ c) := by
  subst ho
  unfold splice
  rw [List.take_left, h, ← List.append_assoc a b c, ← List.length_append, List.drop_left]
theorem zeros_add (m n : Nat) : zeros (m + n) = zeros m ++ zeros n := by simp [zeros]
theorem laid (id : Int) (data : List Int) (h : data.length ≤ 116) : splice (splice (splice (zeros 128) 4 (le32 id)) 8 (le32 data.length)) 12 data = zeros 4 ++ restOf id data := by
  have h0 : zeros 128 = zeros 4 ++ (zeros 4 ++ (zeros 4 ++ (zeros data.length ++ zeros (116 - data.length)))) := by
    rw [← zeros_add, show data.length + (116 - data.length) = 116 by omega, ← zeros_add, ← zeros_add, ← zeros_add]
  rw [h0, splice_mid (zeros 4) (zeros 4) _ (le32 id) 4 rfl rfl, ← List.append_assoc, splice_mid (zeros 4 ++ le32 id) (zeros 4) _ (le32 data.length) 8 rfl rfl, ← List.append_assoc,
    splice_mid ((zeros 4 ++ le32 id) ++ le32 data.length) (zeros data.length) _ data 12 rfl (by simp [zeros_length])]
  simp [restOf, List.append_assoc]
theorem rest_length (id : Int) (data : List Int) (h : data.length ≤ 116) : (restOf id data).length = 124 := by simp [restOf, le32, zeros_length]; omega
theorem byteN_range (a : Int) (k : Nat) : 0 ≤ byteN a k ∧ byteN a k < 256 := by unfold byteN; omega
theorem le32_bytes (a : Int) : ∀ x ∈ le32 a, 0 ≤ x ∧ x < 256 := by
  intro x hx
  simp only [le32, List.mem_cons, List.not_mem_nil, or_false] at hx
  rcases hx with rfl | rfl | rfl | rfl <;> exact byteN_range _ _
theorem zeros_bytes (n : Nat) : ∀ x ∈ zeros n, 0 ≤ x ∧ x < 256 := by
  intro x hx
  rw [List.eq_of_mem_replicate hx]
  omega
theorem rest_bytes (id : Int) (data : List Int) (hd : ∀ x ∈ data, 0 ≤ x ∧ x < 256) : ∀ x ∈ restOf id data, 0 ≤ x ∧ x < 256 := by
  intro x hx
  simp only [restOf, List.mem_append] at hx
  rcases hx with h | h | h | h
  · exact le32_bytes _ x h
  · exact le32_bytes _ x h
  · exact hd x h
  · exact zeros_bytes _ x h
theorem laid_cut (id : Int) (data : List Int) (h : data.length ≤ 116) : ((zeros 4 ++ restOf id data).drop 4).take 124 = restOf id data := by
  have e : (zeros 4 ++ restOf id data).drop 4 = restOf id data := List.drop_left (l₁ := zeros 4)
  rw [e, List.take_of_length_le (by rw [rest_length id data h]; omega)]
theorem laid_last (id : Int) (data : List Int) (s : Int) : splice (zeros 4 ++ restOf id data) 0 (le32 s) = le32 s ++ restOf id data := by
  have := splice_mid [] (zeros 4) (restOf id data) (le32 s) 0 rfl rfl
  simpa using this
theorem C_cells {w : World} {A : Option Addr} {n : Nat} {k : IntKind} {xs : List Int} (h : (Kd.int k).C w A n xs) (hn : 0 < n) : ∃ ad, A = some ad ∧ ∀ j v, (icells k xs)[j]? = some v → w.cell? (ad.add j) = some v := by
  obtain ⟨ad, e, hc⟩ := h.2.2 hn
  refine ⟨ad, e, fun j v hv => ?_⟩
  simp only [icells, List.getElem?_map, Option.map_eq_some_iff] at hv
  obtain ⟨p, hp, rfl⟩ := hv
  obtain ⟨cs, hl, hk, hcell⟩ := hc j p hp
  have e2 : cs = [.int k p] := hk
  subst e2
  have := hcell 0 (.int k p) rfl
  rwa [show (Kd.int k).sz = 1 from rfl, show j * 1 + 0 = j by omega] at this

set_option maxRecDepth 100000 in
set_option maxHeartbeats 1000000 in
theorem pack_ok (id : Int) (A : Option Addr) (c : Nat) (data : List Int) (w : World) (hr : (Kd.int .u8).C w A data.length data) (hc : data.length ≤ c) (hid : 0 ≤ id) (hid2 : id < 4294967296) (hl : data.length ≤ 116) (hd : ∀ x ∈ data, 0 ≤ x ∧ x < 256) :
    Calls Try.prog 24 #[.int .u32 id, .slice A data.length c] w fun e w' => ∃ g, e = .returned (.tuple #[.slice (some ⟨g, 0, none⟩) 128 128, .int .i64 0]) ∧ w.heap.size ≤ g ∧ Blk w' g 5 (icells .u8 (packed id data)) ∧ Only w w' (fun _ => False) := by
  have HR := Lib.hid hr
  have HD := Lib.hid hd
  clear hr hd
  have hl' : (data.length : Int) ≤ 116 := by omega
  have hmk := make128
  have hz : (zeros 128).length = 128 := zeros_length _
  have b0 : Blk (w.alloc (.cells (icells .u8 (zeros 128)).toArray 5)) w.heap.size 5 (icells .u8 (zeros 128)) := Blk.new _ _ _
  have o0 : Only w (w.alloc (.cells (icells .u8 (zeros 128)).toArray 5)) (fun _ => False) := (Only.refl _ _).alloc _
  have HZ := Lib.hid hz
  have B0 := Lib.hid b0
  have O0 := Lib.hid o0
  clear hz b0 o0
  go_enter Try.func24, Try.ntmps24
  go_wp2_with fail
  refine (put32_any w.heap.size 4 124 124 (zeros 128) id _ B0.out (by rw [HZ.out]; omega) (by omega) hid hid2).mono ?_
  rintro e w1 ⟨rfl, b1, o1⟩
  have B1 := Lib.hid b1
  have O1 := Lib.hid (O0.out.step o1 (fun k hk e => absurd hk (by omega)))
  clear b1 o1 B0 O0
  go_wp2_with fail
  refine (put32_any w.heap.size 8 120 120 _ data.length _ B1.out (by rw [length_splice _ _ _ (by rw [HZ.out]; show 4 + 4 ≤ 128; omega), HZ.out]; omega) (by omega) (by omega) (by omega)).mono ?_
  rintro e w2 ⟨rfl, b2, o2⟩
  have B2 := Lib.hid b2
  have O2 := Lib.hid (O1.out.step o2 (fun k hk e => absurd hk (by omega)))
  clear b2 o2 B1 O1
  have B2r : Hid (w2.heap[w.heap.size]? = some (.cells (icells .u8 (splice (splice (zeros 128) 4 (le32 id)) 8 (le32 data.length))).toArray 5 (0, 0))) := B2.out
  go_wp2_with (refine wpList_copy_splice (o := ⟨some 24, _, _, _, _, _⟩) rfl (.tmp 22) (.tmp 23) 22 22 rfl 5 Try.underlying22 (by kernel_rfl) (some ⟨w.heap.size, 12, none⟩) A 116 116 data.length c rfl rfl w.heap.size 12 _ 5 B2r.out (icells .u8 data) ?c1 ?c2 ?c3 ?c4 w.heap.size w ?c5 ?c6 ?_)
  case c1 => rw [icells_length]; exact (Nat.min_eq_left hl).symm
  case c2 =>
    intro hp
    rw [icells_length] at hp
    obtain ⟨ad, rfl, hcell⟩ := C_cells (Kd.C_below HR.out O2.out.below_all) hp
    first | exact ⟨rfl, ad, rfl, hcell⟩ | exact ⟨ad, rfl, hcell⟩
  case c3 => rw [icells_length, icells_length, length_splice _ _ _ (by rw [length_splice _ _ _ (by rw [HZ.out]; show 4 + 4 ≤ 128; omega), HZ.out]; show 8 + 4 ≤ 128; omega), length_splice _ _ _ (by rw [HZ.out]; show 4 + 4 ≤ 128; omega), HZ.out]; omega
  case c4 => exact icells_one _ _
  case c5 => exact O2.out.below_all
  case c6 => omega
  intro w3 b3 o3
  have B3 : Hid (Blk w3 w.heap.size 5 (icells .u8 (zeros 4 ++ restOf id data))) := by
    have := b3.out
    rw [icells_splice, laid id data hl] at this
    exact Lib.hid this
  have O3 := Lib.hid (Only.of_below o3 (fun _ => False))
  clear b3 o3 B2 O2
  go_wp2_with fail
  have hl124 := rest_length id data hl
  have c3 := C_of_blk (o := 4) (n := 124) B3.out (by rw [List.length_append, hl124]; show 4 + 124 ≤ 4 + 124; omega) (by rw [List.length_append, hl124]; show 4 + 124 ≤ _; omega)
  rw [laid_cut id data hl] at c3
  refine (sum_any _ 124 124 (restOf id data) _ c3 (by omega) (rest_bytes id data HD.out) (by omega)).mono ?_
  rintro e w4 ⟨rfl, dr⟩
  clear hl124 c3
  have B4 := Lib.hid (B3.out.below dr.below B3.out.lt)
  have O4 := Lib.hid (O3.out.step (Only.of_below dr.below (fun _ => False)) (fun _ _ h => h))
  have hs := sumOf_range (restOf id data)
  have hs1 := hs.1
  have hs2 := hs.2
  clear hs dr B3 O3
  generalize hS : sumOf (restOf id data) = S at *
  have HS := Lib.hid hS
  clear hS
  go_wp2_with fail
  refine (put32_any w.heap.size 0 128 128 _ S _ B4.out (by rw [List.length_append, rest_length id data hl]; show 0 + 4 ≤ 4 + 124; omega) (by omega) hs1 hs2).mono ?_
  rintro e w5 ⟨rfl, b5, o5⟩
  have B5 := Lib.hid b5
  have O5 := Lib.hid (O4.out.step o5 (fun k hk e => absurd hk (by omega)))
  clear b5 o5 B4 O4
  go_wp2
  go_ret2
  refine ⟨w.heap.size, rfl, Nat.le_refl _, ?_, O5.out⟩
  have := B5.out
  rw [laid_last, ← HS.out] at this
  exact this
theorem pack_large (id : Int) (A : Option Addr) (n c : Nat) (w : World) (hl : 116 < n) (hn : n ≤ 9223372036854775807) :
    Calls Try.prog 24 #[.int .u32 id, .slice A n c] w fun e w' => e = .returned (.tuple #[.slice none 0 0, .int .i64 11]) ∧ w = w' := by
  have hl' : 116 < (n : Int) := by omega
  go_enter Try.func24, Try.ntmps24
  go_wp2
  go_ret2
  exact ⟨rfl, rfl⟩
end Go.Proofs.Ytdpoifaeimmdmaa.Hand
