/- pages.Write and pages.Read over a disk. -/
import Derived.Test.YtgiidddmhnnnjaaPg1
namespace Go.Proofs.Ytgiidddmhnnnjaa.Pg
open Go.RowKit Go.Proofs.Ytgiidddmhnnnjaa.Mem Go.Proofs.YtgiidddmhnnnjaaW.PrintWords Go.Proofs.Ytgiidddmhnnnjaa.Dk
set_option linter.unusedVariables false
set_option linter.unusedSimpArgs false
/-- Part i of a page's bytes. -/
def part (b : List Int) (i : Nat) : List Int := (b.drop (i * 32)).take 32
theorem part_length {b : List Int} (h : b.length = 128) {i : Nat} (hi : i < 4) : (part b i).length = 32 := by unfold part; rw [List.length_take, List.length_drop]; omega
theorem part_bytes {b : List Int} (h : ∀ y ∈ b, 0 ≤ y ∧ y < 256) (i : Nat) : ∀ y ∈ part b i, 0 ≤ y ∧ y < 256 := fun y hy => h y (List.mem_of_mem_drop (List.mem_of_mem_take hy))
/-- The disk behind the first i sectors of page p. -/
def pgN (x : DV) (p : Nat) (b : List Int) : Nat → DV
  | 0 => x
  | i + 1 => (pgN x p b i).write (4 * p + i) (part b i)
structure PgOk (x y : DV) (n p : Nat) (b : List Int) (i : Nat) : Prop where
  good : Dk.Good y n
  life : y.life = -1
  plen : y.pend.length = x.pend.length + i
  seen : y.seen = splice x.seen (128 * p) (b.take (32 * i))
theorem splice_step {l c d : List Int} {o : Nat} (hl : o + c.length + d.length ≤ l.length) : splice (splice l o c) (o + c.length) d = splice l o (c ++ d) := by
  unfold splice
  rw [← List.append_assoc (l.take o), List.take_append_of_le_length (by simp; omega), List.take_of_length_le (by simp; omega), List.drop_append, List.drop_of_length_le (by simp; omega)]
  simp [List.append_assoc, List.drop_drop]
  congr 1
  omega
theorem pgN_ok {x : DV} {n p : Nat} {b : List Int} (hg : Dk.Good x n) (hlife : x.life = -1) (hp : p < n / 4) (hb : b.length = 128) (hbb : ∀ y ∈ b, 0 ≤ y ∧ y < 256) : ∀ i, i ≤ 4 → PgOk x (pgN x p b i) n p b i := by
  intro i
  induction i with
  | zero => intro _; exact ⟨hg, hlife, rfl, by simp [pgN, splice]⟩
  | succ i ih =>
    intro hi
    have h := ih (by omega)
    have hpl := part_length hb (show i < 4 by omega)
    refine ⟨h.good.write (by omega) hpl (part_bytes hbb i), ?_, ?_, ?_⟩
    · show spent _ = -1
      rw [h.life]; decide
    · show (_ ++ [_]).length = _
      rw [List.length_append, h.plen]; rfl
    · show splice (pgN x p b i).seen ((4 * p + i) * 32) (part b i) = _
      have hs := hg.seen
      have e1 : (4 * p + i) * 32 = 128 * p + (b.take (32 * i)).length := by rw [List.length_take]; omega
      rw [h.seen, e1, splice_step (by rw [List.length_take, hpl, hs]; omega)]
      congr 1
      rw [show 32 * (i + 1) = 32 * i + 32 by omega, List.take_add]
      unfold part
      rw [Nat.mul_comm i 32]
theorem pgN_seen {x : DV} {n p : Nat} {b : List Int} (hg : Dk.Good x n) (hlife : x.life = -1) (hp : p < n / 4) (hb : b.length = 128) (hbb : ∀ y ∈ b, 0 ≤ y ∧ y < 256) : (pgN x p b 4).seen = splice x.seen (128 * p) b := by
  have := (pgN_ok hg hlife hp hb hbb 4 (Nat.le_refl _)).seen
  rwa [List.take_of_length_le (by omega)] at this
set_option maxHeartbeats 4000000 in
set_option maxRecDepth 100000 in
theorem pwrite_ok {w : World} {base g n : Nat} {ok : Nat → Prop} {x : DV} (h : Hid (IsDisk w base ok g x)) (hg : Hid (Dk.Good x n)) (hbs : base ≤ w.heap.size) (hlife : Hid (x.life = -1)) (hpl : (x.pend.length + 5) * 32 ≤ 140737488355328) (p : Nat) (hp : p < n / 4) (id : Int) (hid : 0 ≤ id ∧ id < 4294967296)
    (A : Option Addr) (c : Nat) (data : List Int) (hr : Hid ((Kd.int .u8).C w A data.length data)) (hc : data.length ≤ c) (hd : Hid (∀ y ∈ data, 0 ≤ y ∧ y < 256)) (hl : data.length ≤ 116) :
    Calls Try.prog 28 #[.pointer (some ⟨g, 0, none⟩), .int .i64 (p : Int), .int .u32 id, .slice A data.length c] w fun e w' => e = .returned (.int .i64 0) ∧ IsDisk w' base (fun k => ok k ∨ w.heap.size ≤ k) g (pgN x p (Hand.packed id data) 4) ∧ Only w w' ok := by
  have hn := hg.out.n2
  have HC := Lib.hid (check_ok h.out hg.out (p : Int) (by omega) (by omega))
  have PK := Hand.pack_any id A c data w hr.out hc hid hd.out
  rw [show Hand.pck id data = (Hand.packed id data, 0) from if_pos hl] at PK
  have HPK := Lib.hid PK
  have hbl := Pp.packed_length id data hl
  have hbb := Pp.packed_bytes id data hd.out
  obtain ⟨b, hb⟩ : ∃ b, Hand.packed id data = b := ⟨_, rfl⟩
  rw [hb] at HPK hbl hbb ⊢
  have HBL := Lib.hid hbl
  have HBB := Lib.hid hbb
  clear PK hb hbl hbb
  go_enter Try.func28, Try.ntmps28
  go_wp2_with fail
  refine HC.out.mono ?_
  rintro e w' ⟨rfl, rfl⟩
  go_wp2_with fail
  refine HPK.out.mono ?_
  rintro e w1 ⟨v, rfl, r1, b1⟩
  obtain ⟨gb, cb, jb, rfl, q1, -, q3, -, -, q6⟩ := R_open r1 (by rw [HBL.out]; decide)
  rw [HBL.out] at q3 ⊢
  have BB := Lib.hid q6
  have B1 := Lib.hid b1
  have Q1 := Lib.hid q1
  have D1 := Lib.hid ((h.out.bound).keep (Only.of_below b1 (fun _ => False)) (fun _ _ h => h))
  clear r1 b1 q1 q6 HC HPK
  go_wp2_with fail
  go_loopg [29] 4 (fun m iv wr => ∃ i : Nat, iv = .int .i64 i ∧ Aside1 (i + m = 4 ∧ IsDisk wr base (fun k => (ok k ∧ base ≤ k ∧ k < w.heap.size) ∨ w1.heap.size ≤ k) g (pgN x p b i) ∧ Only w1 wr (fun k => ok k ∧ base ≤ k ∧ k < w.heap.size)))
  case atStart => exact ⟨0, rfl, ⟨rfl, D1.out.mono (fun _ hk => .inl hk), Only.refl _ _⟩⟩
  case round =>
    obtain ⟨i, rfl, hA⟩ := hrel
    have HM := Lib.hid hA.out.1
    have HI := Lib.hid hA.out.2.1
    have HO := Lib.hid hA.out.2.2
    clear hA D1
    have hwi : Hid (wrap64 ((i : Int) + 1) = ((i + 1 : Nat) : Int)) := Lib.hid (by have := HM.out; unfold wrap64; omega)
    by_cases hi : i < 4
    · have hii : (i : Int) < 4 := by omega
      have hi0 : (0 : Int) ≤ (i : Int) := by omega
      have hp0 : (0 : Int) ≤ (p : Int) := by omega
      have hpm : (p : Int) ≤ 2048 := by omega
      have PO := pgN_ok hg.out hlife.out hp HBL.out HBB.out i (by omega)
      have BW := Lib.hid (BB.out.keep HO.out (fun hk => by have := Q1.out; omega))
      have hw1 : w.heap.size ≤ w1.heap.size := B1.out.size
      have hsz : w1.heap.size ≤ wr.heap.size := HO.out.size
      have hgb := BB.out.lt
      have CB : Hid ((Kd.int .u8).C wr (some ⟨gb, i * 32, none⟩) 32 (part b i)) := Lib.hid (C_pre' BW.out (show i * 32 + 32 ≤ b.length by rw [HBL.out]; omega) (by rw [HBL.out]; decide))
      have hpl1 : ((pgN x p b i).pend.length + 1) * 32 ≤ 140737488355328 := by have := PO.plen; omega
      have hlf1 : (pgN x p b i).life ≠ 0 := by rw [PO.life]; decide
      have hne1 : ¬ ((ok gb ∧ base ≤ gb ∧ gb < w.heap.size) ∨ w1.heap.size ≤ gb) := fun hk => by
        have := Q1.out
        rcases hk with hk | hk
        · have := hk.2.2; omega
        · omega
      have hs0 : (0 : Int) ≤ 4 * (p : Int) + (i : Int) := by omega
      have hs1 : 4 * (p : Int) + (i : Int) < (n : Int) := by omega
      have HWR := Lib.hid (dk_writeS' HI.out PO.good (Nat.le_trans hbs (Nat.le_trans hw1 hsz)) hpl1 hlf1 (4 * (p : Int) + (i : Int)) hs0 hs1 gb (i * 32) (cb - i * 32) (part b i) CB.out BW.out.lt hne1)
      clear PO hpl1 hlf1 hne1 hs0 hs1
      have hi32 : i * 32 + 32 ≤ 128 := by omega
      go_wp2_with fail
      rw [show (i + 1) * 32 - i * 32 = 32 by omega]
      refine HWR.out.mono ?_
      rintro e w4 ⟨rfl, d4, o4⟩
      have D4 := Lib.hid (show IsDisk w4 base (fun k => (ok k ∧ base ≤ k ∧ k < w.heap.size) ∨ w1.heap.size ≤ k) g (pgN x p b (i + 1)) from by
        have e : (4 * (p : Int) + (i : Int)).toNat = 4 * p + i := by omega
        rw [e] at d4
        exact d4.mono (fun k hk => hk.elim (fun h => h) (fun h => .inr (Nat.le_trans hsz h))))
      have O4 := Lib.hid (HO.out.step o4 (fun k hk h => h.elim (fun h => h) (fun h => by omega)))
      clear d4 o4 HI HO HWR
      go_wp2_with fail
      go_roundg (gk - 1)
      case measure => have := HM.out; omega
      case rel => exact ⟨i + 1, (by first | exact congrArg (Value.int .i64) hwi.out | exact congrArg (Value.int .i64) (by omega)), ⟨by have := HM.out; omega, D4.out, O4.out⟩⟩
    · have hii : ¬ (i : Int) < 4 := by omega
      obtain rfl : i = 4 := by have := HM.out; omega
      have hw1 : w.heap.size ≤ w1.heap.size := B1.out.size
      go_wp2_with fail
      go_ret
      exact ⟨rfl, HI.out.mono (fun k hk => hk.imp (fun h => h.1) (fun h => Nat.le_trans hw1 h)), ((Only.of_below B1.out (fun k => ok k)).step HO.out (fun k _ h => h.1))⟩
theorem pwrite_large {w : World} {base g n : Nat} {ok : Nat → Prop} {x : DV} (h : Hid (IsDisk w base ok g x)) (hg : Hid (Dk.Good x n)) (p : Nat) (hp : p < n / 4) (id : Int) (A : Option Addr) (c m : Nat) (hl : 116 < m) (hm : m ≤ 140737488351232) :
    Calls Try.prog 28 #[.pointer (some ⟨g, 0, none⟩), .int .i64 (p : Int), .int .u32 id, .slice A m c] w fun e w' => e = .returned (.int .i64 11) ∧ w = w' := by
  have HC := Lib.hid (check_ok h.out hg.out (p : Int) (by omega) (by omega))
  have HPK := Lib.hid (Hand.pack_large id A m c w hl (by omega))
  go_enter Try.func28, Try.ntmps28
  go_wp2_with fail
  refine HC.out.mono ?_
  rintro e w' ⟨rfl, rfl⟩
  go_wp2_with fail
  refine HPK.out.mono ?_
  rintro e w' ⟨rfl, rfl⟩
  go_wp2
  go_ret
  exact ⟨rfl, rfl⟩
theorem pwrite_range {w : World} {base g n : Nat} {ok : Nat → Prop} {x : DV} (h : Hid (IsDisk w base ok g x)) (hg : Hid (Dk.Good x n)) (p : Int) (hp : p < 0 ∨ ¬ p < 0 ∧ ¬ p < (n / 4 : Nat)) (id : Int) (A : Option Addr) (c m : Nat) :
    Calls Try.prog 28 #[.pointer (some ⟨g, 0, none⟩), .int .i64 p, .int .u32 id, .slice A m c] w fun e w' => e = .returned (.int .i64 4) ∧ w = w' := by
  have HC := Lib.hid (check_bad h.out hg.out p hp)
  go_enter Try.func28, Try.ntmps28
  go_wp2_with fail
  refine HC.out.mono ?_
  rintro e w' ⟨rfl, rfl⟩
  go_wp2
  go_ret
  exact ⟨rfl, rfl⟩
/-- A page's bytes. -/
def pageAt (l : List Int) (p : Nat) : List Int := (l.drop (128 * p)).take 128
theorem take_part {l : List Int} {p i : Nat} : (l.drop (128 * p)).take (i * 32) ++ sec l (4 * (p : Int) + (i : Int)) = (l.drop (128 * p)).take ((i + 1) * 32) := by
  unfold sec
  rw [show (4 * (p : Int) + (i : Int)).toNat * 32 = 128 * p + i * 32 by omega, show (i + 1) * 32 = i * 32 + 32 by omega, List.take_add, List.drop_drop]
set_option maxHeartbeats 4000000 in
set_option maxRecDepth 100000 in
theorem pread_ok {w : World} {base g n : Nat} {ok : Nat → Prop} {x : DV} (h : Hid (IsDisk w base ok g x)) (hg : Hid (Dk.Good x n)) (hlife : Hid (x.life = -1)) (p : Nat) (hp : p < n / 4) :
    Calls Try.prog 25 #[.pointer (some ⟨g, 0, none⟩), .int .i64 (p : Int)] w fun e w' => ∃ v, e = .returned (.tuple #[.int .u32 (Hand.unp (pageAt x.seen p)).1, v, .int .i64 (Hand.unp (pageAt x.seen p)).2.2]) ∧ (Kd.int .u8).R 5 w' w.heap.size (fun _ => True) v (Hand.unp (pageAt x.seen p)).2.1 ∧ Below w.heap.size w w' := by
  have hn := hg.out.n2
  have HC := Lib.hid (check_ok h.out hg.out (p : Int) (by omega) (by omega))
  go_enter Try.func25, Try.ntmps25
  go_wp2_with fail
  refine HC.out.mono ?_
  rintro e w' ⟨rfl, rfl⟩
  go_wp2_with fail
  have info5 : (Try.prog.info? 5).map (fun i => (i.zero, i.size, i.bytes)) = some (some (.int .u8 0), 1, 1) := by kernel_rfl
  go_loopg [8, 18] 4 (fun m bv iv wr => ∃ (i : Nat) (B : Option Addr) (nb cb : Nat), iv = .int .i64 i ∧ bv = .slice B nb cb ∧ Aside1 (i + m = 4 ∧ (Kd.int .u8).R 5 wr w.heap.size (fun _ => True) (.slice B nb cb) ((x.seen.drop (128 * p)).take (i * 32)) ∧ Below w.heap.size w wr))
  case atStart => exact ⟨0, none, 0, 0, rfl, rfl, ⟨rfl, by rw [Nat.zero_mul, List.take_zero]; exact Kd.R_nil _ _ _ _ _, Below.refl _ _⟩⟩
  case round =>
    obtain ⟨i, B, nb, cb, rfl, rfl, hA⟩ := hrel
    have HM := Lib.hid hA.out.1
    have HR := Lib.hid hA.out.2.1
    have HB := Lib.hid hA.out.2.2
    clear hA
    have hwi : Hid (wrap64 ((i : Int) + 1) = ((i + 1 : Nat) : Int)) := Lib.hid (by have := HM.out; unfold wrap64; omega)
    by_cases hi : i < 4
    · have hii : (i : Int) < 4 := by omega
      have hi0 : (0 : Int) ≤ (i : Int) := by omega
      have hp0 : (0 : Int) ≤ (p : Int) := by omega
      have hpm : (p : Int) ≤ 2048 := by omega
      have HI := Lib.hid (h.out.keep (Only.of_below HB.out (fun _ => False)) (fun _ _ hk => hk))
      have hck : chk x.life (4 * (p : Int) + (i : Int)) (n : Int) = 0 := by unfold chk; rw [if_neg (by rw [hlife.out]; decide), if_neg (by omega)]
      have RD := dk_read HI.out hg.out hg.out.n2 (4 * (p : Int) + (i : Int))
      rw [hck, if_pos rfl] at RD
      have HRD := Lib.hid RD
      have hsl := Lib.hid (sec_length x.seen n (4 * (p : Int) + (i : Int)) hg.out.seen (by omega) (by omega))
      have hlen : ((x.seen.drop (128 * p)).take (i * 32)).length ≤ 128 := by rw [List.length_take]; omega
      have hLL : Hid ((((x.seen.drop (128 * p)).take (i * 32)).length + (sec x.seen (4 * (p : Int) + (i : Int))).length) * 1 ≤ 140737488355328) := Lib.hid (by have := hsl.out; omega)
      clear RD hck
      go_wp2_with (first
        | (go_at_call 21; refine HRD.out.mono ?_; rintro e w2 ⟨v, rfl, r2, b2⟩; obtain ⟨A2, c2, e2⟩ := Kd.R_slice r2; subst e2; have R2 := Lib.hid r2; have B2 := Lib.hid b2; have HB2 := Lib.hid (((Only.of_below HB.out (fun _ => False)).step (Only.of_below b2 (fun _ => False)) (fun _ _ h => h)).below_all); clear r2 b2)
        | ((with_reducible refine gate_builtin (b := .append) (xs := #[.tmp 33, .tmp 34]) rfl ?_); at_builtin; refine Kd.R_append_rows (Kd.int .u8) (w0 := w) w.heap.size rfl (.tmp 33) (.tmp 34) 29 5 (.int .u8 0) 1 rfl Try.underlying29 info5 rfl (by decide) (by omega) (.slice B nb cb) ((x.seen.drop (128 * p)).take (i * 32)) (sec x.seen (4 * (p : Int) + (i : Int))) _ _ _ (fun _ => True) (fun _ => False) rfl rfl (Kd.R_below HR.out B2.out) (Kd.R_reads' R2.out).2.2 (fun _ _ h => h) (fun _ h => h.elim) (fun _ _ => trivial) HB2.out HB2.out.size hLL.out ?_; intro v3 w3 ho hb hg3 hat; rw [take_part] at ho; obtain ⟨A3, c3, ev3⟩ := Kd.R_slice ho; obtain ⟨n3, hn3⟩ : ∃ n3, n3 = ((x.seen.drop (128 * p)).take ((i + 1) * 32)).length := ⟨_, rfl⟩; rw [← hn3] at ev3; clear hn3; subst ev3; have R3 := Lib.hid ho; have B3 := Lib.hid hb; clear ho hb hg3 hat)
        | fail)
      go_roundg (gk - 1)
      case measure => have := HM.out; omega
      case rel => exact ⟨i + 1, A3, n3, c3, (by first | exact congrArg (Value.int .i64) hwi.out | exact congrArg (Value.int .i64) (by omega)), rfl, ⟨by have := HM.out; omega, R3.out, B3.out⟩⟩
    · have hii : ¬ (i : Int) < 4 := by omega
      obtain rfl : i = 4 := by have := HM.out; omega
      have hr : (Kd.int .u8).R 5 wr w.heap.size (fun _ => True) (.slice B nb cb) (pageAt x.seen p) := HR.out
      have hby : ∀ y ∈ pageAt x.seen p, 0 ≤ y ∧ y < 256 := fun y hy => hg.out.bs y (List.mem_of_mem_drop (List.mem_of_mem_take hy))
      have rr := Kd.R_reads' hr
      obtain rfl : nb = (pageAt x.seen p).length := rr.1
      have UP := Lib.hid (Hand.unpack_any B cb (pageAt x.seen p) wr rr.2.2 rr.2.1 hby)
      clear rr hr hby HR
      go_wp2_with fail
      refine UP.out.mono ?_
      rintro e w4 ⟨v4, rfl, r4, b4⟩
      have R4 := Lib.hid r4
      have B4 := Lib.hid (((Only.of_below HB.out (fun _ => False)).step (Only.of_below b4 (fun _ => False)) (fun _ _ h => h)).below_all)
      have hbw : w.heap.size ≤ wr.heap.size := HB.out.size
      clear r4 b4 UP
      go_wp2
      go_ret3
      exact ⟨_, rfl, Kd.R_lower R4.out hbw, B4.out⟩
/-- An op: Kind, P, S, ID, Data. -/
abbrev OpP := Int × Int × Int × Int × List Int
abbrev kOpP : Kd OpP := Kd.pair (Kd.int .i64) (Kd.pair (Kd.int .i64) (Kd.pair (Kd.int .i64) (Kd.pair (Kd.int .u32) (Kd.slice 5 (Kd.int .u8)))))
def OpPOk (o : OpP) : Prop := (0 ≤ o.2.2.2.1 ∧ o.2.2.2.1 < 4294967296) ∧ ∀ y ∈ o.2.2.2.2, 0 ≤ y ∧ y < 256
/-- A write that is carried out. -/
def fitsP (m : Nat) (o : OpP) : Prop := 0 ≤ o.2.1 ∧ o.2.1 < (m : Int) ∧ o.2.2.2.2.length ≤ 116
instance (m : Nat) (o : OpP) : Decidable (fitsP m o) := by unfold fitsP; exact inferInstance
/-- Of each page the last write, and one. -/
def lastsN (m : Nat) (list : List OpP) : Nat → List Int
  | 0 => List.replicate m 0
  | j + 1 => match list[j]? with
    | some o => if fitsP m o then (lastsN m list j).set o.2.1.toNat ((j : Int) + 1) else lastsN m list j
    | none => lastsN m list j
theorem lastsN_y {m : Nat} {list : List OpP} {j : Nat} {o : OpP} (h : list[j]? = some o) (hf : fitsP m o) : lastsN m list (j + 1) = (lastsN m list j).set o.2.1.toNat ((j : Int) + 1) := by
  rw [lastsN, h]; exact if_pos hf
theorem lastsN_n {m : Nat} {list : List OpP} {j : Nat} {o : OpP} (h : list[j]? = some o) (hf : ¬ fitsP m o) : lastsN m list (j + 1) = lastsN m list j := by
  rw [lastsN, h]; exact if_neg hf
theorem lastsN_length (m : Nat) (list : List OpP) : ∀ j, (lastsN m list j).length = m := by
  intro j
  induction j with
  | zero => simp [lastsN]
  | succ j ih =>
    cases h : list[j]? with
    | none => rw [lastsN, h]; exact ih
    | some o =>
      by_cases hf : fitsP m o
      · rw [lastsN_y h hf, List.length_set]; exact ih
      · rw [lastsN_n h hf]; exact ih
/-- What the disk holds behind the first j ops. -/
structure PgInv (n : Nat) (list : List OpP) (j : Nat) (x : DV) : Prop where
  good : Dk.Good x n
  life : x.life = -1
  plen : x.pend.length ≤ 4 * j
  page : ∀ p, p < n / 4 → ((lastsN (n / 4) list j)[p]? = some 0 ∧ pageAt x.seen p = Hand.zeros 128) ∨
    ∃ k o, k < j ∧ (lastsN (n / 4) list j)[p]? = some ((k : Int) + 1) ∧ list[k]? = some o ∧ o.2.2.2.2.length ≤ 116 ∧ pageAt x.seen p = Hand.packed o.2.2.2.1 o.2.2.2.2
theorem pageAt_same {l b : List Int} {p n : Nat} (hl : l.length = n * 32) (hp : p < n / 4) (hb : b.length = 128) : pageAt (splice l (128 * p) b) p = b := by
  unfold pageAt splice
  rw [List.drop_append_of_le_length (by simp; omega), List.drop_of_length_le (by simp; omega), List.nil_append, List.take_append_of_le_length (by omega), List.take_of_length_le (by omega)]
theorem pageAt_other {l b : List Int} {p q n : Nat} (hl : l.length = n * 32) (hp : p < n / 4) (hq : q < n / 4) (hb : b.length = 128) (h : q ≠ p) : pageAt (splice l (128 * p) b) q = pageAt l q := by
  unfold pageAt
  apply List.ext_getElem?
  intro i
  rw [List.getElem?_take, List.getElem?_take]
  split
  · rw [List.getElem?_drop, List.getElem?_drop, splice_out l b (128 * p) (128 * q + i) (by omega) (by omega)]
  · rfl
theorem inv_zero {n : Nat} (h1 : 1 ≤ n) (h2 : n ≤ 8192) (list : List OpP) : PgInv n list 0 ⟨Dk.zeros (n * 32), Dk.zeros (n * 32), [], -1⟩ := by
  refine ⟨good_new n h1 h2, rfl, Nat.zero_le _, fun p hp => .inl ⟨?_, ?_⟩⟩
  · show (List.replicate (n / 4) (0 : Int))[p]? = some 0
    rw [List.getElem?_replicate, if_pos hp]
  · show ((List.replicate (n * 32) (0 : Int)).drop (128 * p)).take 128 = List.replicate 128 0
    rw [List.drop_replicate, List.take_replicate]
    congr 1
    omega
theorem inv_yes {n : Nat} {list : List OpP} {j : Nat} {x : DV} (h : PgInv n list j x) {o : OpP} (he : list[j]? = some o) (hf : fitsP (n / 4) o) (ho : OpPOk o) : PgInv n list (j + 1) (pgN x o.2.1.toNat (Hand.packed o.2.2.2.1 o.2.2.2.2) 4) := by
  obtain ⟨f1, f2, f3⟩ := hf
  have hp : o.2.1.toNat < n / 4 := by omega
  have hb := Pp.packed_length o.2.2.2.1 o.2.2.2.2 f3
  have hbb := Pp.packed_bytes o.2.2.2.1 o.2.2.2.2 ho.2
  have hk := pgN_ok h.good h.life hp hb hbb 4 (Nat.le_refl _)
  have hs := pgN_seen h.good h.life hp hb hbb
  refine ⟨hk.good, hk.life, by rw [hk.plen]; have := h.plen; omega, fun q hq => ?_⟩
  rw [lastsN_y he ⟨f1, f2, f3⟩, hs]
  by_cases e : q = o.2.1.toNat
  · refine .inr ⟨j, o, by omega, ?_, he, f3, ?_⟩
    · rw [e, List.getElem?_set_self (by rw [lastsN_length]; exact hp)]
    · rw [e, pageAt_same h.good.seen hp hb]
  · rw [List.getElem?_set_ne (fun h => e h.symm), pageAt_other h.good.seen hp hq hb e]
    rcases h.page q hq with hh | ⟨k, o', h1, h2, h3, h4, h5⟩
    · exact .inl hh
    · exact .inr ⟨k, o', by omega, h2, h3, h4, h5⟩
theorem inv_no {n : Nat} {list : List OpP} {j : Nat} {x : DV} (h : PgInv n list j x) {o : OpP} (he : list[j]? = some o) (hf : ¬ fitsP (n / 4) o) : PgInv n list (j + 1) x := by
  refine ⟨h.good, h.life, by have := h.plen; omega, fun q hq => ?_⟩
  rw [lastsN_n he hf]
  rcases h.page q hq with hh | ⟨k, o', h1, h2, h3, h4, h5⟩
  · exact .inl hh
  · exact .inr ⟨k, o', by omega, h2, h3, h4, h5⟩
theorem unp_zeros : Hand.unp (Hand.zeros 128) = (0, [], 5) := by decide +kernel
/-- Ops handed in. -/
structure ScriptP (w : World) (A : Option Addr) (c : Nat) (l : List OpP) : Prop where
  cells : kOpP.C w A l.length l
  cap : l.length ≤ c
  ok : ∀ o ∈ l, OpPOk o
  size : l.length ≤ 1048576
  each : ∀ o ∈ l, o.2.2.2.2.length ≤ 140737488351232
/-- An op of a script, read in place, in whatever world behind. -/
theorem opP_held {w : World} {A : Option Addr} {c : Nat} {l : List OpP} (h : ScriptP w A c l) (k : Nat) (hk : k < l.length) : ∃ ad o1 o2 o3 o4 oB AB cB, A = some ad ∧ l[k]? = some (o1, o2, o3, o4, oB) ∧
    (∀ W, Below w.heap.size w W → W.cell? (ad.add (k * 5)) = some (.int .i64 o1) ∧ W.cell? ⟨(ad.add (k * 5)).block, (ad.add (k * 5)).off + 1, none⟩ = some (.int .i64 o2) ∧ W.cell? ⟨(ad.add (k * 5)).block, (ad.add (k * 5)).off + 2, none⟩ = some (.int .i64 o3) ∧ W.cell? ⟨(ad.add (k * 5)).block, (ad.add (k * 5)).off + 3, none⟩ = some (.int .u32 o4) ∧ W.cell? ⟨(ad.add (k * 5)).block, (ad.add (k * 5)).off + 4, none⟩ = some (.slice AB oB.length cB)) ∧
    oB.length ≤ cB ∧ (∀ W, Below w.heap.size w W → (Kd.int .u8).C W AB oB.length oB) ∧ oB.length ≤ 140737488351232 ∧ OpPOk (o1, o2, o3, o4, oB) := by
  obtain ⟨ad, hA, hC⟩ := h.cells.2.2 (by omega)
  have hp : l[k]? = some l[k] := List.getElem?_eq_getElem hk
  obtain ⟨c, hcl, hK, hcell⟩ := hC k _ hp
  have hm := List.mem_of_getElem? hp
  generalize l[k] = o at *
  obtain ⟨o1, o2, o3, o4, oB⟩ := o
  obtain ⟨c0, r0, rfl, h0, c1, r1, rfl, h1, c2, r2, rfl, h2, c3, c4, rfl, h3, ⟨AB, cB, rfl, lB, rB⟩⟩ := hK
  have h0 : c0 = [_] := h0
  have h1 : c1 = [_] := h1
  have h2 : c2 = [_] := h2
  have h3 : c3 = [_] := h3
  subst h0 h1 h2 h3
  refine ⟨ad, o1, o2, o3, o4, oB, AB, cB, hA, hp, fun W hb => ?_, lB, fun W hb => Kd.C_below rB hb, h.each _ hm, h.ok _ hm⟩
  have cw : ∀ j v, [Value.int .i64 o1, .int .i64 o2, .int .i64 o3, .int .u32 o4, .slice AB oB.length cB][j]? = some v → W.cell? (ad.add (k * 5 + j)) = some v := fun j v hv => (hb.cell (World.block_lt_of_cell? _ _ (hcell j v hv))).trans (hcell j v hv)
  have x1 := cw 1 _ rfl
  rw [add_field ad (k * 5) 1 (by decide)] at x1
  have x2 := cw 2 _ rfl
  rw [add_field ad (k * 5) 2 (by decide)] at x2
  have x3 := cw 3 _ rfl
  rw [add_field ad (k * 5) 3 (by decide)] at x3
  have x4 := cw 4 _ rfl
  rw [add_field ad (k * 5) 4 (by decide)] at x4
  exact ⟨cw 0 _ rfl, x1, x2, x3, x4⟩
/-- What Write answers. -/
def wres (m : Nat) (p : Int) (l : Nat) : Int := if 0 ≤ p ∧ p < (m : Int) then (if l ≤ 116 then 0 else 11) else 4
theorem pwrite_any {w : World} {base g n : Nat} {ok : Nat → Prop} {x : DV} (h : IsDisk w base ok g x) (hg : Dk.Good x n) (hbs : base ≤ w.heap.size) (hlife : x.life = -1) (hpl : (x.pend.length + 5) * 32 ≤ 140737488355328) (p : Int) (id : Int) (hid : 0 ≤ id ∧ id < 4294967296)
    (A : Option Addr) (c : Nat) (data : List Int) (hr : (Kd.int .u8).C w A data.length data) (hc : data.length ≤ c) (hd : ∀ y ∈ data, 0 ≤ y ∧ y < 256) (hl : data.length ≤ 140737488351232) :
    Calls Try.prog 28 #[.pointer (some ⟨g, 0, none⟩), .int .i64 p, .int .u32 id, .slice A data.length c] w fun e w' => e = .returned (.int .i64 (wres (n / 4) p data.length)) ∧ IsDisk w' base (fun k => ok k ∨ w.heap.size ≤ k) g (if 0 ≤ p ∧ p < ((n / 4 : Nat) : Int) ∧ data.length ≤ 116 then pgN x p.toNat (Hand.packed id data) 4 else x) ∧ Only w w' ok := by
  by_cases h1 : 0 ≤ p ∧ p < ((n / 4 : Nat) : Int)
  · obtain ⟨q, rfl⟩ := Int.eq_ofNat_of_zero_le h1.1
    by_cases h2 : data.length ≤ 116
    · rw [show wres (n / 4) (q : Int) data.length = 0 by unfold wres; rw [if_pos h1, if_pos h2], if_pos ⟨h1.1, h1.2, h2⟩, Int.toNat_natCast]
      exact pwrite_ok (Lib.hid h) (Lib.hid hg) hbs (Lib.hid hlife) hpl q (by omega) id hid A c data (Lib.hid hr) hc (Lib.hid hd) h2
    · rw [show wres (n / 4) (q : Int) data.length = 11 by unfold wres; rw [if_pos h1, if_neg h2], if_neg (fun hh => h2 hh.2.2)]
      refine (pwrite_large (Lib.hid h) (Lib.hid hg) q (by omega) id A c data.length (by omega) hl).mono ?_
      rintro e w' ⟨rfl, rfl⟩
      exact ⟨rfl, h.mono (fun _ hk => .inl hk), Only.refl _ _⟩
  · rw [show wres (n / 4) p data.length = 4 by unfold wres; rw [if_neg h1], if_neg (fun hh => h1 ⟨hh.1, hh.2.1⟩)]
    refine (pwrite_range (Lib.hid h) (Lib.hid hg) p (by omega) id A c data.length).mono ?_
    rintro e w' ⟨rfl, rfl⟩
    exact ⟨rfl, h.mono (fun _ hk => .inl hk), Only.refl _ _⟩
end Go.Proofs.Ytgiidddmhnnnjaa.Pg
