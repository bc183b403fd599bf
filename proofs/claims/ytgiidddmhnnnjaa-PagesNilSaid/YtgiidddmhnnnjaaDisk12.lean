/- grown: a disk on which a script was carried out. -/
import Derived.Test.YtgiidddmhnnnjaaDiskPut
import Derived.Test.YtgiidddmhnnnjaaOpenKd
namespace Go.Proofs.Ytgiidddmhnnnjaa.Dk
open Go.RowKit Go.Proofs.Ytgiidddmhnnnjaa.Mem Go.Proofs.YtgiidddmhnnnjaaW.PrintWords
set_option linter.unusedVariables false
set_option linter.unusedSimpArgs false
/-- An op: Kind, S, N, Cut, Odd, B, Keep. -/
abbrev OpV := Int × Int × Int × Int × Bool × List Int × List Bool
abbrev kOp : Kd OpV := Kd.pair (Kd.int .i64) (Kd.pair (Kd.int .i64) (Kd.pair (Kd.int .i64) (Kd.pair (Kd.int .i64) (Kd.pair Kd.bool (Kd.pair (Kd.slice 5 (Kd.int .u8)) (Kd.slice 4 Kd.bool))))))
/-- What an op writes. -/
def bytesOf (o : OpV) : List Int := if o.2.2.2.2.1 = true then o.2.2.2.2.2.1 else full o.2.2.2.2.2.1
/-- What a disk of n sectors is behind a write of an op, whatever it is. -/
def DV.put (x : DV) (n : Nat) (o : OpV) : DV := if (bytesOf o).length = 32 ∧ 0 ≤ o.2.1 ∧ o.2.1 < n then x.write o.2.1.toNat (bytesOf o) else x
def DV.step (x : DV) (n : Nat) (o : OpV) : DV :=
  if o.1 = 2 then x.barrier else if o.1 = 3 then (if 0 ≤ o.2.2.2.1 ∧ o.2.2.2.1 ≤ 32 then x.crash o.2.2.2.2.2.2 o.2.2.1 o.2.2.2.1 else x) else if o.1 = 1 ∨ o.1 = 4 ∨ o.1 = 5 then x else x.put n o
def sectorsOf (s : Int) : Nat := if s < 1 ∨ 64 < s then 4 else s.toNat
/-- The disk behind the first j ops. -/
def grownN (n : Nat) (script : List OpV) : Nat → DV
  | 0 => ⟨zeros (n * 32), zeros (n * 32), [], -1⟩
  | j + 1 => match script[j]? with
    | some o => (grownN n script j).step n o
    | none => grownN n script j
/-- The bytes of an op are bytes. -/
def OpOk (o : OpV) : Prop := ∀ y ∈ o.2.2.2.2.2.1, 0 ≤ y ∧ y < 256
theorem bytesOf_ok {o : OpV} (h : OpOk o) : ∀ y ∈ bytesOf o, 0 ≤ y ∧ y < 256 := by
  unfold bytesOf
  split
  · exact h
  · exact full_bytes _ h
structure Grown (x : DV) (n m : Nat) : Prop where
  good : Good x n
  life : x.life = -1
  pend : x.pend.length ≤ m
theorem Grown.put {x : DV} {n m : Nat} (h : Grown x n m) {o : OpV} (ho : OpOk o) : Grown (x.put n o) n (m + 1) := by
  unfold DV.put
  split
  · rename_i hc
    obtain ⟨h1, h2, h3⟩ := hc
    refine ⟨h.good.write (by omega) h1 (bytesOf_ok ho), ?_, ?_⟩
    · show spent x.life = -1
      rw [h.life]; decide
    · show (x.pend ++ [_]).length ≤ m + 1
      have := h.pend
      simp; omega
  · exact ⟨h.good, h.life, Nat.le_succ_of_le h.pend⟩
theorem Grown.step {x : DV} {n m : Nat} (h : Grown x n m) {o : OpV} (ho : OpOk o) : Grown (x.step n o) n (m + 1) := by
  unfold DV.step
  split
  · refine ⟨h.good.barrier, ?_, Nat.zero_le _⟩
    show spent x.life = -1
    rw [h.life]; decide
  · split
    · split
      · rename_i hc
        exact ⟨h.good.crash _ _ _ hc.1 hc.2, rfl, Nat.zero_le _⟩
      · exact ⟨h.good, h.life, Nat.le_succ_of_le h.pend⟩
    · split
      · exact ⟨h.good, h.life, Nat.le_succ_of_le h.pend⟩
      · exact h.put ho
theorem grownN_ok (n : Nat) (h1 : 1 ≤ n) (h2 : n ≤ 8192) (script : List OpV) (hs : ∀ o ∈ script, OpOk o) : ∀ j, Grown (grownN n script j) n j := by
  intro j
  induction j with
  | zero => exact ⟨good_new n h1 h2, rfl, Nat.le_refl _⟩
  | succ j ih =>
    cases hp : script[j]? with
    | none => unfold grownN; rw [hp]; exact ⟨ih.good, ih.life, Nat.le_succ_of_le ih.pend⟩
    | some o => unfold grownN; rw [hp]; exact ih.step (hs o (List.mem_of_getElem? hp))
theorem grownN_succ {n : Nat} {script : List OpV} {j : Nat} {o : OpV} (h : script[j]? = some o) : grownN n script (j + 1) = (grownN n script j).step n o := by
  rw [grownN, h]
/-- An op of a script, read in place. -/
theorem op_at {w : World} {A : Option Addr} {script : List OpV} (h : kOp.C w A script.length script) (k : Nat) (hk : k < script.length) :
    ∃ ad o AB cB AK cK, A = some ad ∧ script[k]? = some o ∧ (∀ j v, [Value.int .i64 o.1, .int .i64 o.2.1, .int .i64 o.2.2.1, .int .i64 o.2.2.2.1, .bool o.2.2.2.2.1, .slice AB o.2.2.2.2.2.1.length cB, .slice AK o.2.2.2.2.2.2.length cK][j]? = some v → w.cell? (ad.add (k * 7 + j)) = some v) ∧
      o.2.2.2.2.2.1.length ≤ cB ∧ (Kd.int .u8).C w AB o.2.2.2.2.2.1.length o.2.2.2.2.2.1 ∧ o.2.2.2.2.2.2.length ≤ cK ∧ Kd.bool.C w AK o.2.2.2.2.2.2.length o.2.2.2.2.2.2 := by
  obtain ⟨ad, hA, hC⟩ := h.2.2 (by omega)
  have hp : script[k]? = some script[k] := List.getElem?_eq_getElem hk
  obtain ⟨c, hcl, hK, hcell⟩ := hC k _ hp
  obtain ⟨c0, r0, rfl, h0, c1, r1, rfl, h1, c2, r2, rfl, h2, c3, r3, rfl, h3, c4, r4, rfl, h4, c5, c6, rfl, ⟨AB, cB, rfl, lB, rB⟩, ⟨AK, cK, rfl, lK, rK⟩⟩ := hK
  have h0 : c0 = [_] := h0
  have h1 : c1 = [_] := h1
  have h2 : c2 = [_] := h2
  have h3 : c3 = [_] := h3
  have h4 : c4 = [_] := h4
  subst h0 h1 h2 h3 h4
  exact ⟨ad, script[k], AB, cB, AK, cK, hA, hp, fun j v hv => hcell j v hv, lB, rB, lK, rK⟩
theorem bytes_any (o1 o2 o3 o4 : Int) (o5 : Bool) (oB : List Int) (oK : List Bool) (AB AK : Option Addr) (cB cK : Nat) (w : World) (hB : (Kd.int .u8).C w AB oB.length oB) (hcB : oB.length ≤ cB) (hK : Kd.bool.C w AK oK.length oK) (hcK : oK.length ≤ cK) (hl : oB.length ≤ 140737488351232) :
    Calls Try.prog 15 #[.agg #[.int .i64 o1, .int .i64 o2, .int .i64 o3, .int .i64 o4, .bool o5, .slice AB oB.length cB, .slice AK oK.length cK]] w fun e w' => ∃ v, e = .returned v ∧ (Kd.int .u8).R 5 w' w.heap.size (fun _ => True) v (bytesOf (o1, o2, o3, o4, o5, oB, oK)) ∧ Below w.heap.size w w' := by
  refine PDiskApart.quirelaw01_bytes.calls 40 o1 o2 o3 o4 o5 AB cB oB AK cK oK _ w hB hcB hK hcK ?_
  unfold PDiskApart.quirelaw01_bytes.f bytesOf
  cases o5 with
  | true =>
    rw [if_pos rfl, if_pos rfl]
    simp only [Option.bind_some, List.length_nil, Nat.zero_add, List.nil_append]
    rw [if_pos (by omega)]
  | false =>
    rw [if_neg (by decide), if_neg (show ¬ (false = true) by decide), full_f oB (by omega) 40 (by omega)]
    rfl
theorem dk_crash_any {w : World} {base g n : Nat} {ok : Nat → Prop} {x : DV} (h : IsDisk w base ok g x) (hg : Good x n) (hpl : (x.pend.length + 1) * 32 ≤ 140737488355328) (KA : Option Addr) (KC : Nat) (keep : List Bool) (torn cut : Int) (hK : Kd.bool.C w KA keep.length keep) (hKne : ∀ ad, KA = some ad → 0 < keep.length → ¬ ok ad.block) (hKC : keep.length ≤ KC) :
    Calls Try.prog 16 #[.pointer (some ⟨g, 0, none⟩), .slice KA keep.length KC, .int .i64 torn, .int .i64 cut] w fun e w' => (∃ r : Int, e = .returned (.int .i64 r)) ∧ IsDisk w' base ok g (if 0 ≤ cut ∧ cut ≤ 32 then x.crash keep torn cut else x) ∧ Only w w' ok := by
  by_cases hc : 0 ≤ cut ∧ cut ≤ 32
  · rw [if_pos hc]
    refine (dk_crash h hg hpl KA KC keep torn cut hc.1 hc.2 hK hKne hKC).mono ?_
    rintro e w' ⟨rfl, d, o⟩
    exact ⟨⟨_, rfl⟩, d, o⟩
  · rw [if_neg hc]
    refine (crash_bad g KA keep.length KC torn cut w (by omega)).mono ?_
    rintro e w' ⟨rfl, rfl⟩
    exact ⟨⟨_, rfl⟩, h, Only.refl _ _⟩
set_option maxHeartbeats 4000000 in
set_option maxRecDepth 100000 in
theorem grown_any (s : Int) (A : Option Addr) (c : Nat) (script : List OpV) (w : World) (hs : Hid (kOp.C w A script.length script)) (hc : script.length ≤ c) (hso : Hid (∀ o ∈ script, OpOk o)) (hpl : script.length * 32 ≤ 140737488351232) (hbl : Hid (∀ o ∈ script, o.2.2.2.2.2.1.length ≤ 140737488351232 ∧ o.2.2.2.2.2.2.length ≤ 140737488351232)) : Calls Try.prog 10 #[.int .i64 s, .slice A script.length c] w fun e w' => ∃ g, e = .returned (.pointer (some ⟨g, 0, none⟩)) ∧ IsDisk w' w.heap.size (fun _ => True) g (grownN (sectorsOf s) script script.length) ∧ Below w.heap.size w w' := by
  have key : ∃ n : Nat, sectorsOf s = n ∧ 1 ≤ n ∧ n ≤ 64 := ⟨_, rfl, by unfold sectorsOf; split <;> omega, by unfold sectorsOf; split <;> omega⟩
  obtain ⟨n, hn, hn1, hn2⟩ := key
  rw [hn]
  have hnew := fun w => new_ok n w hn1 (by omega)
  have hcase : (s < 1 ∧ (n : Int) = 4) ∨ (64 < s ∧ ¬ s < 1 ∧ (n : Int) = 4) ∨ (¬ s < 1 ∧ ¬ 64 < s ∧ s = n) := by
    unfold sectorsOf at hn
    split at hn <;> omega
  clear hn
  have HNEW := Lib.hid hnew
  clear hnew
  rcases hcase with ⟨h1, h4⟩ | ⟨h2, h1, h4⟩ | ⟨h1, h2, h4⟩
  all_goals first | subst h4 | (rw [h4] at HNEW; have HN4 := Lib.hid h4; clear h4)
  all_goals
    go_enter Try.func10, Try.ntmps10
    go_wp2_with (first
        | (go_at_call 30; refine (HNEW.out w).mono ?_; rintro e w1 ⟨g, rfl, d1, b1⟩; have D1 := Lib.hid d1; have B1 := Lib.hid b1; clear d1 b1)
        | fail)
    go_loopg [7] script.length (fun m i wr => ∃ k : Nat, i = .int .i64 k ∧ Aside1 (k + m = script.length ∧ IsDisk wr w.heap.size (fun _ => True) g (grownN n script k) ∧ Below w.heap.size w wr))
    case atStart => exact ⟨0, rfl, ⟨Nat.zero_add _, D1.out, B1.out⟩⟩
    case round =>
      obtain ⟨k, rfl, hA⟩ := hrel
      have HM := Lib.hid hA.out.1
      have HI := Lib.hid hA.out.2.1
      have HB := Lib.hid hA.out.2.2
      clear hA D1 B1
      have hw1 : Hid (wrap64 ((k : Int) + 1) = ((k + 1 : Nat) : Int)) := Lib.hid (by have := HM.out; unfold wrap64; omega)
      by_cases hk : k < script.length
      · have hki : (k : Int) < (script.length : Int) := by omega
        have hk0 : (0 : Int) ≤ (k : Int) := by omega
        obtain ⟨ad, o, AB, cB, AK, cK, rfl, e1, e2, e3, e4, e5, e6⟩ := op_at hs.out k hk
        have HE := Lib.hid e1
        have HB4 := Lib.hid e4
        have HK6 := Lib.hid e6
        have cw : ∀ j v, [Value.int .i64 o.1, .int .i64 o.2.1, .int .i64 o.2.2.1, .int .i64 o.2.2.2.1, .bool o.2.2.2.2.1, .slice AB o.2.2.2.2.2.1.length cB, .slice AK o.2.2.2.2.2.2.length cK][j]? = some v → wr.cell? (ad.add (k * 7 + j)) = some v := fun j v hv => (HB.out.cell (World.block_lt_of_cell? _ _ (e2 j v hv))).trans (e2 j v hv)
        have x0 : wr.cell? (ad.add (k * 7)) = _ := cw 0 _ rfl
        have x1 := cw 1 _ rfl
        rw [add_field ad (k * 7) 1 (by decide)] at x1
        have x2 := cw 2 _ rfl
        rw [add_field ad (k * 7) 2 (by decide)] at x2
        have x3 := cw 3 _ rfl
        rw [add_field ad (k * 7) 3 (by decide)] at x3
        have x4 := cw 4 _ rfl
        rw [add_field ad (k * 7) 4 (by decide)] at x4
        have x5 := cw 5 _ rfl
        rw [add_field ad (k * 7) 5 (by decide)] at x5
        have x6 := cw 6 _ rfl
        rw [add_field ad (k * 7) 6 (by decide)] at x6
        clear cw e1 e2 e4 e6
        obtain ⟨o1, o2, o3, o4, o5, oB, oK⟩ := o
        simp only at x0 x1 x2 x3 x4 x5 x6 e3 e5
        by_cases c2 : o1 = 2
        · subst c2
          go_wp2_with fail
          have HV := Lib.hid (IsDisk.bound (HI.out.keep ((Only.refl wr (fun _ => False)).alloc (.cells #[.int .i64 2, .int .i64 o2, .int .i64 o3, .int .i64 o4, .bool o5, .slice AB oB.length cB, .slice AK oK.length cK] 33)) (fun _ _ h => h)))
          have HBV := Lib.hid (((Only.of_below HB.out (fun _ => False)).alloc (.cells #[.int .i64 2, .int .i64 o2, .int .i64 o3, .int .i64 o4, .bool o5, .slice AB oB.length cB, .slice AK oK.length cK] 33)))
          clear x0 x1 x2 x3 x4 x5 x6 HI HB
          generalize wr.alloc (.cells #[.int .i64 2, .int .i64 o2, .int .i64 o3, .int .i64 o4, .bool o5, .slice AB oB.length cB, .slice AK oK.length cK] 33) = v0 at *
          have hgr := grownN_ok n hn1 (by omega) script hso.out k
          refine (dk_barrier HV.out hgr.good (by omega) (by rw [hgr.life]; decide)).mono ?_
          rintro e w4 ⟨rfl, d4, o4⟩
          have FIN := Lib.hid (show IsDisk w4 w.heap.size (fun _ => True) g (grownN n script (k + 1)) from by
            rw [grownN_succ HE.out, DV.step, if_pos rfl]
            exact d4.mono (fun _ _ => trivial))
          have B4 := (HBV.out.step o4 (fun q hq h => absurd h.2.1 (by omega))).below_all
          clear d4 o4 hgr HV HBV
          go_wp2
          go_roundg (gk - 1)
          case measure => have := HM.out; omega
          case rel => exact ⟨k + 1, (by first | exact congrArg (Value.int .i64) hw1.out | exact congrArg (Value.int .i64) (by omega)), ⟨by have := HM.out; omega, FIN.out, B4⟩⟩
        · by_cases c3 : o1 = 3
          · subst c3
            have hgr := grownN_ok n hn1 (by omega) script hso.out k
            have GR := Lib.hid hgr
            clear hgr
            go_wp2_with fail
            have HV := Lib.hid ((IsDisk.bound HI.out).keep ((Only.refl wr (fun _ => False)).alloc (.cells #[.int .i64 3, .int .i64 o2, .int .i64 o3, .int .i64 o4, .bool o5, .slice AB oB.length cB, .slice AK oK.length cK] 33)) (fun _ _ h => h))
            have HBV := Lib.hid (((Only.of_below HB.out (fun _ => False)).alloc (.cells #[.int .i64 3, .int .i64 o2, .int .i64 o3, .int .i64 o4, .bool o5, .slice AB oB.length cB, .slice AK oK.length cK] 33)).below_all)
            have HL := Lib.hid (show Blk (wr.alloc (.cells #[.int .i64 3, .int .i64 o2, .int .i64 o3, .int .i64 o4, .bool o5, .slice AB oB.length cB, .slice AK oK.length cK] 33)) wr.heap.size 33 [.int .i64 3, .int .i64 o2, .int .i64 o3, .int .i64 o4, .bool o5, .slice AB oB.length cB, .slice AK oK.length cK] from Blk.new _ _ _)
            clear x0 x1 x2 x3 x4 x5 x6 HI HB
            generalize wr.alloc (.cells #[.int .i64 3, .int .i64 o2, .int .i64 o3, .int .i64 o4, .bool o5, .slice AB oB.length cB, .slice AK oK.length cK] 33) = v0 at *
            generalize wr.heap.size = L at *
            have y2 := HL.out.cell_at 2 _ rfl
            have y3 := HL.out.cell_at 3 _ rfl
            have y6 := HL.out.cell_at 6 _ rfl
            have hLlt : Hid (L < v0.heap.size) := Lib.hid HL.out.lt
            have hoK := (hbl.out _ (List.mem_of_getElem? HE.out)).2
            simp only at hoK
            have info4 : (Try.prog.info? 4).map (fun i => (i.zero, i.size, i.bytes)) = some (some (.bool false), 1, 1) := by kernel_rfl
            have HBe : Hid (Below v0.heap.size v0 (v0.drew.alloc (.cells #[] 4))) := Lib.hid (((Only.refl v0 (fun _ => False)).drew).alloc _).below_all
            have HRe : Hid (Kd.bool.R 4 (v0.drew.alloc (.cells #[] 4)) v0.heap.size (fun _ => True) (.slice (some ⟨v0.heap.size, 0, none⟩) 0 0) []) := Lib.hid (Kd.R_of_own ⟨rfl, .inr ⟨v0.heap.size, 0, #[], rfl, Nat.le_refl _, heap_alloc_new _ _, Nat.le_refl _, by unfold maxLen; omega, rfl, rfl⟩⟩ (fun _ _ => trivial))
            have hLL : (([] : List Bool).length + oK.length) * 1 ≤ 140737488355328 := by simp; omega
            have HCK : Hid (Kd.bool.C (v0.drew.alloc (.cells #[] 4)) AK oK.length oK) := Lib.hid (Kd.C_below HK6.out (((Only.of_below HBV.out (fun _ => False)).step (Only.of_below HBe.out (fun _ => False)) (fun _ _ h => h)).below_all))
            have hpl3 : ((grownN n script k).pend.length + 1) * 32 ≤ 140737488355328 := by have := GR.out.pend; omega
            have HLok : Hid (¬ (True ∧ w.heap.size ≤ L ∧ L < L)) := Lib.hid (fun hh => absurd hh.2.2 (Nat.lt_irrefl _))
            have HNE : Hid (∀ (w3 : World) (A3 : Option Addr) (c3 : Nat), Kd.bool.R 4 w3 v0.heap.size (fun _ => True) (.slice A3 oK.length c3) oK → ∀ ad, A3 = some ad → 0 < oK.length → ¬ (True ∧ w.heap.size ≤ ad.block ∧ ad.block < L)) := Lib.hid (fun w3 A3 c3 hr ad he _ hh => by
              subst he
              have := Kd.R_base hr ad.block rfl
              have := hLlt.out
              omega)
            go_region_held3 (fun w' => w'.cell? ⟨L, 2, none⟩ = some (.int .i64 o3) ∧ w'.cell? ⟨L, 3, none⟩ = some (.int .i64 o4) ∧ w'.cell? ⟨L, 6, none⟩ = some (.slice AK oK.length cK)) (go_keep) (first
              | (refine Kd.R_append_rows_step Kd.bool (w0 := v0) v0.heap.size rfl (.tmp 49) (.tmp 51) 23 4 (.bool false) 1 rfl Try.underlying23 info4 rfl (by decide) (by decide) (.slice (some ⟨v0.heap.size, 0, none⟩) 0 0) [] oK AK oK.length cK (fun _ => True) (fun _ => False) rfl rfl HRe.out HCK.out (fun _ _ h => h) (fun _ h => h.elim) (fun _ _ => trivial) HBe.out HBe.out.size hLL ?_; intro v3 w3 hR3 hb3 hg3 hat3; rw [List.nil_append] at hR3; obtain ⟨A3, c3, ev3⟩ := Kd.R_slice hR3; subst ev3; have R3 := Lib.hid hR3; have B3 := Lib.hid hb3; clear hR3 hb3 hg3 hat3; have z2 := (B3.out.cell (p := ⟨L, 2, none⟩) hLlt.out).trans y2; have z3 := (B3.out.cell (p := ⟨L, 3, none⟩) hLlt.out).trans y3; have z6 := (B3.out.cell (p := ⟨L, 6, none⟩) hLlt.out).trans y6)
              | (go_at_call 16; refine (dk_crash_any (HV.out.keep (Only.of_below B3.out (fun _ => False)) (fun _ _ h => h)) GR.out.good hpl3 A3 c3 oK o3 o4 (Kd.R_reads' R3.out).2.2 (HNE.out w3 A3 c3 R3.out) (Kd.R_reads' R3.out).2.1).mono ?_; rintro e w4 ⟨⟨r4, rfl⟩, d4, o4'⟩; have D4 := Lib.hid d4; have O4 := Lib.hid o4'; clear d4 o4'; have q2 := (O4.out.cell (p := ⟨L, 2, none⟩) (World.block_lt_of_cell? _ _ z2) HLok.out).trans z2; have q3 := (O4.out.cell (p := ⟨L, 3, none⟩) (World.block_lt_of_cell? _ _ z3) HLok.out).trans z3; have q6 := (O4.out.cell (p := ⟨L, 6, none⟩) (World.block_lt_of_cell? _ _ z6) HLok.out).trans z6))
            all_goals
              have FIN := Lib.hid (show IsDisk w4 w.heap.size (fun _ => True) g (grownN n script (k + 1)) from by
                rw [grownN_succ HE.out, DV.step, if_neg (show ¬ (3 : Int) = 2 by decide), if_pos rfl]
                exact D4.out.mono (fun _ _ => trivial))
              have B4 := (((Only.of_below HBV.out (fun _ => False)).step (Only.of_below B3.out (fun _ => False)) (fun _ _ h => h)).step O4.out (fun q hq h => absurd h.2.1 (by omega))).below_all
              clear q2 q3 q6 z2 z3 z6 y2 y3 y6 D4 O4 HV HBV
              go_wp2
              go_roundg (gk - 1)
              case measure => have := HM.out; omega
              case rel => exact ⟨k + 1, (by first | exact congrArg (Value.int .i64) hw1.out | exact congrArg (Value.int .i64) (by omega)), ⟨by have := HM.out; omega, FIN.out, B4⟩⟩
          · by_cases c1 : o1 = 1
            · subst c1
              go_wp2
              go_roundg (gk - 1)
              case measure => have := HM.out; omega
              case rel => exact ⟨k + 1, (by first | exact congrArg (Value.int .i64) hw1.out | exact congrArg (Value.int .i64) (by omega)), ⟨by have := HM.out; omega, by rw [grownN_succ HE.out, DV.step, if_neg (show ¬ (1 : Int) = 2 by decide), if_neg (show ¬ (1 : Int) = 3 by decide), if_pos (show (1 : Int) = 1 ∨ (1 : Int) = 4 ∨ (1 : Int) = 5 by decide)]; exact HI.out.keep ((Only.refl wr (fun _ => False)).alloc _) (fun _ _ h => h), ((Only.of_below HB.out (fun _ => False)).alloc _).below_all⟩⟩
            · by_cases c4 : o1 = 4
              · subst c4
                go_wp2
                go_roundg (gk - 1)
                case measure => have := HM.out; omega
                case rel => exact ⟨k + 1, (by first | exact congrArg (Value.int .i64) hw1.out | exact congrArg (Value.int .i64) (by omega)), ⟨by have := HM.out; omega, by rw [grownN_succ HE.out, DV.step, if_neg (show ¬ (4 : Int) = 2 by decide), if_neg (show ¬ (4 : Int) = 3 by decide), if_pos (show (4 : Int) = 1 ∨ (4 : Int) = 4 ∨ (4 : Int) = 5 by decide)]; exact HI.out.keep ((Only.refl wr (fun _ => False)).alloc _) (fun _ _ h => h), ((Only.of_below HB.out (fun _ => False)).alloc _).below_all⟩⟩
              · by_cases c5 : o1 = 5
                · subst c5
                  go_wp2
                  go_roundg (gk - 1)
                  case measure => have := HM.out; omega
                  case rel => exact ⟨k + 1, (by first | exact congrArg (Value.int .i64) hw1.out | exact congrArg (Value.int .i64) (by omega)), ⟨by have := HM.out; omega, by rw [grownN_succ HE.out, DV.step, if_neg (show ¬ (5 : Int) = 2 by decide), if_neg (show ¬ (5 : Int) = 3 by decide), if_pos (show (5 : Int) = 1 ∨ (5 : Int) = 4 ∨ (5 : Int) = 5 by decide)]; exact HI.out.keep ((Only.refl wr (fun _ => False)).alloc _) (fun _ _ h => h), ((Only.of_below HB.out (fun _ => False)).alloc _).below_all⟩⟩
                · have t1 : (o1 == 1) = false := by simpa using c1
                  have t2 : (o1 == 2) = false := by simpa using c2
                  have t3 : (o1 == 3) = false := by simpa using c3
                  have t4 : (o1 == 4) = false := by simpa using c4
                  have t5 : (o1 == 5) = false := by simpa using c5
                  go_wp2_with fail
                  have HV := Lib.hid ((IsDisk.bound HI.out).keep ((Only.refl wr (fun _ => False)).alloc (.cells #[.int .i64 o1, .int .i64 o2, .int .i64 o3, .int .i64 o4, .bool o5, .slice AB oB.length cB, .slice AK oK.length cK] 33)) (fun _ _ h => h))
                  have HBV := Lib.hid (((Only.of_below HB.out (fun _ => False)).alloc (.cells #[.int .i64 o1, .int .i64 o2, .int .i64 o3, .int .i64 o4, .bool o5, .slice AB oB.length cB, .slice AK oK.length cK] 33)).below_all)
                  have HL := Lib.hid (show Blk (wr.alloc (.cells #[.int .i64 o1, .int .i64 o2, .int .i64 o3, .int .i64 o4, .bool o5, .slice AB oB.length cB, .slice AK oK.length cK] 33)) wr.heap.size 33 [.int .i64 o1, .int .i64 o2, .int .i64 o3, .int .i64 o4, .bool o5, .slice AB oB.length cB, .slice AK oK.length cK] from Blk.new _ _ _)
                  clear x0 x1 x2 x3 x4 x5 x6 HI HB
                  generalize wr.alloc (.cells #[.int .i64 o1, .int .i64 o2, .int .i64 o3, .int .i64 o4, .bool o5, .slice AB oB.length cB, .slice AK oK.length cK] 33) = v0 at *
                  generalize wr.heap.size = L at *
                  have y0 := HL.out.cell_at 0 _ rfl
                  have y1 := HL.out.cell_at 1 _ rfl
                  have y2 := HL.out.cell_at 2 _ rfl
                  have y3 := HL.out.cell_at 3 _ rfl
                  have y4 := HL.out.cell_at 4 _ rfl
                  have y5 := HL.out.cell_at 5 _ rfl
                  have y6 := HL.out.cell_at 6 _ rfl
                  have hgr := grownN_ok n hn1 (by omega) script hso.out k
                  have GR := Lib.hid hgr
                  have hoB := (hbl.out _ (List.mem_of_getElem? HE.out)).1
                  simp only at hoB
                  have HBd : Hid (Below w.heap.size w v0.drew) := Lib.hid ((Only.of_below HBV.out (fun _ => False)).drew).below_all
                  have hLlt : Hid (L < v0.heap.size) := Lib.hid HL.out.lt
                  have hpl3 : ((grownN n script k).pend.length + 1) * 32 ≤ 140737488355328 := by have := hgr.pend; omega
                  obtain ⟨bb, hbb⟩ : ∃ bb, bb = bytesOf (o1, o2, o3, o4, o5, oB, oK) := ⟨_, rfl⟩
                  have HBB := Lib.hid hbb
                  have HLok : Hid (¬ (True ∧ w.heap.size ≤ L ∧ L < L)) := Lib.hid (fun hh => absurd hh.2.2 (Nat.lt_irrefl _))
                  have HAP : Hid (∀ q, (True ∧ w.heap.size ≤ q ∧ q < L) → q < v0.drew.heap.size) := Lib.hid (fun q hq => Nat.lt_trans hq.2.2 hLlt.out)
                  clear hgr hbb
                  go_region_held3 (fun w' => w'.cell? ⟨L, 0, none⟩ = some (.int .i64 o1) ∧ w'.cell? ⟨L, 1, none⟩ = some (.int .i64 o2) ∧ w'.cell? ⟨L, 2, none⟩ = some (.int .i64 o3) ∧ w'.cell? ⟨L, 3, none⟩ = some (.int .i64 o4) ∧ w'.cell? ⟨L, 4, none⟩ = some (.bool o5) ∧ w'.cell? ⟨L, 5, none⟩ = some (.slice AB oB.length cB) ∧ w'.cell? ⟨L, 6, none⟩ = some (.slice AK oK.length cK)) (go_keep) (first
                    | (go_at_call 15; refine (bytes_any o1 o2 o3 o4 o5 oB oK AB AK cB cK _ (Kd.C_below HB4.out HBd.out) e3 (Kd.C_below HK6.out HBd.out) e5 hoB).mono ?_; rintro e w2 ⟨v, rfl, r2, b2⟩; rw [← HBB.out] at r2; obtain ⟨A2, c2', ev2⟩ := Kd.R_slice r2; subst ev2; have R2 := Lib.hid r2; have B2 := Lib.hid b2; clear r2 b2; have z0 := (B2.out.cell (p := ⟨L, 0, none⟩) hLlt.out).trans y0; have z1 := (B2.out.cell (p := ⟨L, 1, none⟩) hLlt.out).trans y1; have z2 := (B2.out.cell (p := ⟨L, 2, none⟩) hLlt.out).trans y2; have z3 := (B2.out.cell (p := ⟨L, 3, none⟩) hLlt.out).trans y3; have z4 := (B2.out.cell (p := ⟨L, 4, none⟩) hLlt.out).trans y4; have z5 := (B2.out.cell (p := ⟨L, 5, none⟩) hLlt.out).trans y5; have z6 := (B2.out.cell (p := ⟨L, 6, none⟩) hLlt.out).trans y6; have HV2 := Lib.hid ((HV.out.keep ((Only.refl v0 (fun _ => False)).drew) (fun _ _ h => h)).keep (Only.of_below B2.out (fun _ => False)) (fun _ _ h => h)); have HB2 := Lib.hid (((Only.of_below HBd.out (fun _ => False)).step (Only.of_below B2.out (fun _ => False)) (fun _ _ h => h)).below_all))
                    | (go_at_call 14; refine (dk_put HV2.out GR.out.good HB2.out.size hpl3 (by rw [GR.out.life]; decide) o2 v0.drew.heap.size (fun _ => True) A2 c2' bb R2.out HAP.out).mono ?_; rintro e w4 ⟨⟨r4, rfl⟩, d4, o4⟩; have D4 := Lib.hid d4; have O4 := Lib.hid o4; clear d4 o4; have q0 := (O4.out.cell (p := ⟨L, 0, none⟩) (World.block_lt_of_cell? _ _ z0) HLok.out).trans z0; have q1 := (O4.out.cell (p := ⟨L, 1, none⟩) (World.block_lt_of_cell? _ _ z1) HLok.out).trans z1; have q2 := (O4.out.cell (p := ⟨L, 2, none⟩) (World.block_lt_of_cell? _ _ z2) HLok.out).trans z2; have q3 := (O4.out.cell (p := ⟨L, 3, none⟩) (World.block_lt_of_cell? _ _ z3) HLok.out).trans z3; have q4 := (O4.out.cell (p := ⟨L, 4, none⟩) (World.block_lt_of_cell? _ _ z4) HLok.out).trans z4; have q5 := (O4.out.cell (p := ⟨L, 5, none⟩) (World.block_lt_of_cell? _ _ z5) HLok.out).trans z5; have q6 := (O4.out.cell (p := ⟨L, 6, none⟩) (World.block_lt_of_cell? _ _ z6) HLok.out).trans z6))
                  all_goals
                    have FIN := Lib.hid (show IsDisk w4 w.heap.size (fun _ => True) g (grownN n script (k + 1)) from by
                      rw [grownN_succ HE.out, DV.step, if_neg c2, if_neg c3, if_neg (show ¬ (o1 = 1 ∨ o1 = 4 ∨ o1 = 5) from fun hh => by rcases hh with hh | hh | hh; exact c1 hh; exact c4 hh; exact c5 hh), DV.put, ← HBB.out]
                      exact D4.out.mono (fun _ _ => trivial))
                    have B4 := ((Only.of_below HB2.out (fun _ => False)).step O4.out (fun q hq h => absurd h.2.1 (by omega))).below_all
                    clear q0 q1 q2 q3 q4 q5 q6 z0 z1 z2 z3 z4 z5 z6 y0 y1 y2 y3 y4 y5 y6 D4 O4 HV2 HB2
                    go_wp2
                    go_roundg (gk - 1)
                    case measure => have := HM.out; omega
                    case rel => exact ⟨k + 1, (by first | exact congrArg (Value.int .i64) hw1.out | exact congrArg (Value.int .i64) (by omega)), ⟨by have := HM.out; omega, FIN.out, B4⟩⟩
      · have hki : ¬ (k : Int) < (script.length : Int) := by omega
        go_wp2
        go_ret
        have hkn : k = script.length := by have := HM.out; omega
        subst hkn
        exact ⟨g, rfl, HI.out, HB.out⟩
end Go.Proofs.Ytgiidddmhnnnjaa.Dk
