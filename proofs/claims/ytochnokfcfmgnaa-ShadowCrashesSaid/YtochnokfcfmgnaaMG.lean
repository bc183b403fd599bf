/- Texts merged: a section each. -/
import Derived.Test.YtochnokfcfmgnaaMC
import Derived.Test.YtochnokfcfmgnaaMQ
import Derived.Test.YtochnokfcfmgnaaMX
section
/- Seat F: numbers of bytes, and what a root's bytes give, plain. -/
namespace Go.Proofs.Ytochnokfcfmgnaa.St
open Go Go.RowKit Go.Proofs.Ytochnokfcfmgnaa.Mem Go.Proofs.YtochnokfcfmgnaaW.PrintWords Go.Proofs.Ytochnokfcfmgnaa.Dk Go.Maps Go.ChangeMaps Go.Proofs.Ytochnokfcfmgnaa.Sh Go.Proofs.Ytochnokfcfmgnaa.Sp
set_option linter.unusedVariables false
set_option linter.unusedSimpArgs false
set_option maxRecDepth 100000
set_option maxHeartbeats 1000000
/-- The number that bytes write, the lowest first. -/
def numV : List Int → Int
  | [] => 0
  | y :: r => y + 256 * numV r
theorem numV_range : ∀ (l : List Int), (∀ y ∈ l, 0 ≤ y ∧ y < 256) → 0 ≤ numV l ∧ numV l < ((256 ^ l.length : Nat) : Int)
  | [], _ => by simp [numV]
  | y :: r, h => by
    have ih := numV_range r (fun z hz => h z (by simp [hz]))
    have h1 := h y (by simp)
    rw [numV, List.length_cons, Nat.pow_succ]
    omega
theorem numV_leB : ∀ (m : Nat) (n : Int), 0 ≤ n → n < ((256 ^ m : Nat) : Int) → numV (leB n m) = n
  | 0, n, h0, h1 => by
    have : n = 0 := by simp at h1; omega
    rw [this]; rfl
  | m + 1, n, h0, h1 => by
    rw [Nat.pow_succ] at h1
    rw [leB, numV, numV_leB m (n / 256) (by omega) (by omega)]
    omega
theorem or_low (x b : Int) (h0 : 0 ≤ x) (h1 : x < 72057594037927936) (hb : 0 ≤ b ∧ b < 256) : Go.bits .or .u64 (IntKind.u64.wrap (x * 256)) (IntKind.u64.wrap b) = b + 256 * x := by
  obtain ⟨X, rfl⟩ := Int.eq_ofNat_of_zero_le h0
  obtain ⟨B, rfl⟩ := Int.eq_ofNat_of_zero_le hb.1
  have w1 : IntKind.u64.wrap ((X : Int) * 256) = ((X * 256 : Nat) : Int) := by rw [Pure.wrap_u64]; omega
  have w2 : IntKind.u64.wrap (B : Int) = (B : Int) := by rw [Pure.wrap_u64]; omega
  rw [w1, w2]
  show IntKind.u64.wrap (((BitVec.ofInt 64 ((X * 256 : Nat) : Int)) ||| (BitVec.ofInt 64 (B : Int))).toNat : Int) = _
  have h2 : (BitVec.ofInt 64 ((X * 256 : Nat) : Int)).toNat = X * 256 := by rw [BitVec.ofInt_natCast, BitVec.toNat_ofNat]; omega
  have h3 : (BitVec.ofInt 64 (B : Int)).toNat = B := by rw [BitVec.ofInt_natCast, BitVec.toNat_ofNat]; omega
  have h4 : X * 256 ||| B = X * 256 + B := by
    have := Nat.shiftLeft_add_eq_or_of_lt (b := B) (i := 8) (by omega) X
    rw [Nat.shiftLeft_eq] at this
    exact this.symm
  rw [BitVec.toNat_or, h2, h3, h4, Pure.wrap_u64]
  omega
theorem num_l0 (l : List Int) (hb : ∀ y ∈ l, 0 ≤ y ∧ y < 256) (hl : l.length ≤ 8) : ∀ (d k : Nat), d ≤ l.length → d < k → PShadowCrashes.shadow_number.l0 k l (numV (l.drop d)) ((d : Int) - 1) = some (numV l)
  | 0, k, h, hk => by
    obtain ⟨k, rfl⟩ : ∃ q, k = q + 1 := ⟨k - 1, by omega⟩
    rw [PShadowCrashes.shadow_number.l0, if_neg (by omega)]
    rfl
  | d + 1, k, h, hk => by
    obtain ⟨k, rfl⟩ : ∃ q, k = q + 1 := ⟨k - 1, by omega⟩
    have hd : d < l.length := by omega
    have e1 : (((d + 1 : Nat) : Int) - 1) = (d : Int) := by omega
    have hr : rd l (d : Int) = l[d] := by
      show l.getD ((d : Int)).toNat 0 = _
      rw [Int.toNat_natCast]; simp [hd]
    have hn := numV_range (l.drop (d + 1)) (fun y hy => hb y (List.mem_of_mem_drop hy))
    have hp : (256 : Nat) ^ (l.drop (d + 1)).length ≤ 256 ^ 7 := Nat.pow_le_pow_right (by decide) (by rw [List.length_drop]; omega)
    have h7 : (256 : Nat) ^ 7 = 72057594037927936 := by decide
    have hw : wrap64 ((d : Int) - 1) = (d : Int) - 1 := by unfold wrap64; omega
    rw [PShadowCrashes.shadow_number.l0, e1, if_pos (by omega), if_pos (by omega), if_pos (by omega), hr, or_low _ _ hn.1 (by omega) (hb _ (List.getElem_mem hd)), hw]
    rw [← num_l0 l hb hl d k (by omega) (by omega), List.drop_eq_getElem_cons hd]
    rfl
theorem num_f (l : List Int) (hb : ∀ y ∈ l, 0 ≤ y ∧ y < 256) (hl : l.length ≤ 8) : PShadowCrashes.shadow_number.f 9 l = some (numV l) := by
  unfold PShadowCrashes.shadow_number.f
  have hw : wrap64 ((l.length : Int) - 1) = (l.length : Int) - 1 := by unfold wrap64; omega
  rw [hw, ← num_l0 l hb hl l.length 9 (Nat.le_refl _) (by omega), List.drop_length]
  rfl
theorem number_c (A : Option Addr) (c : Nat) (l : List Int) (w : World) (hC : (Kd.int .u8).C w A l.length l) (hc : l.length ≤ c) (hl : l.length ≤ 8) (hb : ∀ y ∈ l, 0 ≤ y ∧ y < 256) :
    Calls Try.prog 64 #[.slice A l.length c] w fun e w' => e = .returned (.int .u64 (numV l)) ∧ ∃ n, w' = w.drewN n := by
  refine (PShadowCrashes.shadow_number.calls 9 A c l _ w hC hc (num_f l hb hl)).mono ?_
  rintro e w' ⟨rfl, h⟩
  exact ⟨rfl, h.out⟩
/-- All numbers that bytes write. -/
def numsV : Nat → List Int → Option (List Int)
  | 0, [] => some []
  | 0, _ :: _ => none
  | _ + 1, [] => some []
  | k + 1, y :: r => match rdP 9 true (y :: r) with
    | none => none
    | some (n, r') => match numsV k r' with
      | none => none
      | some l => some ((n : Int) :: l)
theorem rd_drop {xs r : List Int} {a n : Nat} (hx : ∀ x ∈ xs, 0 ≤ x ∧ x < 256) (h : rdP 9 true (xs.drop a) = some (n, r)) : xs.drop (xs.length - r.length) = r ∧ r.length < (xs.drop a).length := by
  have hb : ∀ x ∈ xs.drop a, 0 ≤ x ∧ x < 256 := fun x hx' => hx x (List.mem_of_mem_drop hx')
  have h1 := (rd_back 9 true _ n r hb h).1
  have h2 := rd_len hb h
  refine ⟨?_, h2⟩
  have e : xs = (xs.take a ++ enc n) ++ r := by rw [List.append_assoc, ← h1, List.take_append_drop]
  have el : xs.length - r.length = (xs.take a ++ enc n).length := by
    have := congrArg List.length e
    rw [List.length_append] at this
    omega
  rw [el]
  conv => lhs; arg 2; rw [e]
  exact List.drop_left
theorem nums_l0 (xs : List Int) (hx : ∀ x ∈ xs, 0 ≤ x ∧ x < 256) (hl : xs.length ≤ 100000) : ∀ (d k a : Nat) (acc : List Int), a ≤ xs.length → (xs.drop a).length ≤ d → d + 31 ≤ k → acc.length + (xs.drop a).length ≤ 100000 →
    PShadowCrashes.shadow_numbers.l0 k xs acc (a : Int) = some (match numsV d (xs.drop a) with | none => ([], false) | some l => (acc ++ l, true))
  | 0, k, a, acc, ha, h1, h2, h3 => by
    obtain ⟨k, rfl⟩ : ∃ q, k = q + 1 := ⟨k - 1, by omega⟩
    have e : xs.drop a = [] := List.eq_nil_of_length_eq_zero (by omega)
    rw [List.length_drop] at h1
    rw [PShadowCrashes.shadow_numbers.l0, if_neg (by omega), e]
    simp [numsV]
  | d + 1, k, a, acc, ha, h1, h2, h3 => by
    obtain ⟨k, rfl⟩ : ∃ q, k = q + 1 := ⟨k - 1, by omega⟩
    by_cases hlt : a < xs.length
    · have hcons := List.drop_eq_getElem_cons hlt
      rw [PShadowCrashes.shadow_numbers.l0, if_pos (by omega), Rd.read_val xs hx (by omega) a ha k (by omega)]
      show (if (Rd.rdV xs a).2.2 = 0 then _ else _) = _
      unfold Rd.rdV
      have hm : numsV (d + 1) (xs.drop a) = match rdP 9 true (xs.drop a) with | none => none | some (n, r') => match numsV d r' with | none => none | some l => some ((n : Int) :: l) := by
        rw [hcons]; rfl
      rw [hm]
      cases hr : rdP 9 true (xs.drop a) with
      | none => rfl
      | some p =>
        obtain ⟨n, r⟩ := p
        obtain ⟨q1, q2⟩ := rd_drop hx hr
        dsimp only
        rw [if_pos rfl, if_pos (by omega)]
        have ih := nums_l0 xs hx hl d k (xs.length - r.length) (acc ++ [(n : Int)]) (by omega) (by rw [q1]; omega) (by omega) (by rw [q1, List.length_append, List.length_singleton]; omega)
        rw [ih, q1]
        cases numsV d r with
        | none => rfl
        | some l => simp
    · have e : xs.drop a = [] := List.drop_eq_nil_of_le (by omega)
      rw [PShadowCrashes.shadow_numbers.l0, if_neg (by omega), e]
      simp [numsV]
theorem numbers_c (A : Option Addr) (c : Nat) (l : List Int) (w : World) (hC : (Kd.int .u8).C w A l.length l) (hc : l.length ≤ c) (hl : l.length ≤ 100000) (hb : ∀ y ∈ l, 0 ≤ y ∧ y < 256) :
    Calls Try.prog 67 #[.slice A l.length c] w fun e w' => ∃ v, e = .returned (.tuple #[v, .bool (numsV l.length l).isSome]) ∧ (Kd.int .u64).R 59 w' w.heap.size (fun _ => True) v ((numsV l.length l).getD []) ∧ Below w.heap.size w w' := by
  have h := nums_l0 l hb hl l.length (l.length + 31) 0 [] (Nat.zero_le _) (by simp) (Nat.le_refl _) (by simp; omega)
  rw [List.drop_zero] at h
  cases hn : numsV l.length l with
  | none =>
    rw [hn] at h
    refine (PShadowCrashes.shadow_numbers.calls _ A c l _ _ w hC hc h).mono ?_
    rintro e w' ⟨v, rfl, h1, h2⟩
    exact ⟨v, rfl, h1, h2⟩
  | some z =>
    rw [hn] at h
    refine (PShadowCrashes.shadow_numbers.calls _ A c l _ _ w hC hc h).mono ?_
    rintro e w' ⟨v, rfl, h1, h2⟩
    exact ⟨v, rfl, h1, h2⟩
theorem numsV_range : ∀ (d : Nat) (l z : List Int), (∀ y ∈ l, 0 ≤ y ∧ y < 256) → numsV d l = some z → (∀ x ∈ z, 0 ≤ x ∧ x < 9223372036854775808) ∧ z.length ≤ l.length
  | 0, [], z, _, h => by injection h with h; subst h; exact ⟨(fun _ h => by cases h), Nat.le_refl _⟩
  | 0, _ :: _, z, _, h => by cases h
  | d + 1, [], z, _, h => by injection h with h; subst h; exact ⟨(fun _ h => by cases h), Nat.le_refl _⟩
  | d + 1, y :: r, z, hb, h => by
    unfold numsV at h
    cases hr : rdP 9 true (y :: r) with
    | none => rw [hr] at h; cases h
    | some p =>
      obtain ⟨n, r'⟩ := p
      rw [hr] at h
      dsimp only at h
      have h1 := rd_back 9 true _ n r' hb hr
      have h2 := rd_len hb hr
      cases hm : numsV d r' with
      | none => rw [hm] at h; cases h
      | some l =>
        rw [hm] at h
        injection h with h
        subst h
        have ih := numsV_range d r' l (fun x hx => hb x (by rw [h1.1]; exact List.mem_append.2 (.inr hx))) hm
        have h3 : (128 : Nat) ^ 9 = 9223372036854775808 := by decide
        refine ⟨fun x hx => ?_, by rw [List.length_cons]; omega⟩
        rcases List.mem_cons.1 hx with h4 | h4
        · have := h1.2.1; omega
        · exact ih.1 x h4
/-- The tables of a root: which pages they are, and what they hold. -/
def tabL (b : List Int) (c : Nat) : Nat → Int → List Int → List Int → Option (List Int × List Int)
  | 0, next, tabs, table => if next = 0 then some (tabs, table) else none
  | left + 1, next, tabs, table =>
    if next ∈ 0 :: 1 :: tabs ∨ (c : Int) ≤ next then none
    else if (Hand.unp (Pg.pageAt b next.toNat)).2.2 ≠ 0 ∨ (Hand.unp (Pg.pageAt b next.toNat)).1 ≠ 2 ∨ (Hand.unp (Pg.pageAt b next.toNat)).2.1.length < 4 then none
    else tabL b c left (numV ((Hand.unp (Pg.pageAt b next.toNat)).2.1.take 4)) (tabs ++ [next]) (table ++ (Hand.unp (Pg.pageAt b next.toNat)).2.1.drop 4)
/-- The pages of a table. -/
def entL (b : List Int) (c : Nat) : List Int → Option Int → List Int → PM → Option PM
  | a :: p :: r, prev, tk, f =>
    if 728 ≤ a ∨ (∃ q, prev = some q ∧ a ≤ q) ∨ p ∈ tk ∨ (c : Int) ≤ p then none
    else if (Hand.unp (Pg.pageAt b p.toNat)).2.2 ≠ 0 ∨ (Hand.unp (Pg.pageAt b p.toNat)).1 ≠ idV a.toNat then none
    else entL b c r (some a) (tk ++ [p]) (fun j => if j = a.toNat then some (p.toNat, (Hand.unp (Pg.pageAt b p.toNat)).2.1) else f j)
  | _, _, _, f => some f
/-- A number within bytes. -/
def fldV (r : List Int) (lo len : Nat) : Int := numV ((r.drop lo).take len)
/-- Does a root count? -/
def rootOk (r : List Int) : Prop := fldV r 0 8 = fldV r 24 8 ∧ fldV r 0 8 ≠ 0 ∧ fldV r 16 8 = 0
instance (r : List Int) : Decidable (rootOk r) := by unfold rootOk; exact inferInstance
instance (prev : Option Int) (a : Int) : Decidable (∃ q, prev = some q ∧ a ≤ q) := by
  cases prev with
  | none => exact isFalse (by rintro ⟨q, h, _⟩; cases h)
  | some q => exact decidable_of_iff (a ≤ q) ⟨fun h => ⟨q, rfl, h⟩, fun ⟨_, h, h2⟩ => by injection h with h; rw [h]; exact h2⟩
/-- What the tables' bytes give. -/
def entsL (b : List Int) (c : Nat) (tabs table : List Int) : Option PM :=
  match numsV table.length table with
  | none => none
  | some l => if l.length % 2 ≠ 0 then none else entL b c l none (0 :: 1 :: tabs) (fun _ => none)
/-- The store that a root has. -/
def loadV (x : DV) (c : Nat) (p : Nat) : Option SV :=
  if rootOk (sec x.seen (4 * (p : Int))) then
    match tabL x.seen c (fldV (sec x.seen (4 * (p : Int))) 12 4).toNat (fldV (sec x.seen (4 * (p : Int))) 8 4) [] [] with
    | none => none
    | some (tabs, table) => match entsL x.seen c tabs table with
      | none => none
      | some f => some ⟨x, (p : Int), fldV (sec x.seen (4 * (p : Int))) 0 8, tabs, f, f⟩
  else none
theorem unp_ok {b : List Int} (hb : ∀ y ∈ b, 0 ≤ y ∧ y < 256) : (Hand.unp b).2.1.length ≤ 116 ∧ (∀ y ∈ (Hand.unp b).2.1, 0 ≤ y ∧ y < 256) ∧ 0 ≤ (Hand.unp b).1 ∧ (Hand.unp b).1 < 4294967296 := by
  have h0 : ∀ (l : List Int) (i : Nat), (∀ y ∈ l, 0 ≤ y ∧ y < 256) → 0 ≤ l.getD i 0 ∧ l.getD i 0 < 256 := fun l i h => by
    rw [List.getD_eq_getElem?_getD]
    cases hi : l[i]? with
    | none => exact ⟨Int.le_refl _, by decide⟩
    | some y => exact h y (List.mem_of_getElem? hi)
  have h1 : ∀ l : List Int, (∀ y ∈ l, 0 ≤ y ∧ y < 256) → 0 ≤ Hand.ld32 l ∧ Hand.ld32 l < 4294967296 := fun l h => by
    have a0 := h0 l 0 h
    have a1 := h0 l 1 h
    have a2 := h0 l 2 h
    have a3 := h0 l 3 h
    unfold Hand.ld32
    omega
  have hd : ∀ k, ∀ y ∈ b.drop k, 0 ≤ y ∧ y < 256 := fun k y hy => hb y (List.mem_of_mem_drop hy)
  unfold Hand.unp
  split
  · exact ⟨by simp, (fun _ h => by cases h), by decide, by decide⟩
  · split
    · exact ⟨by simp, (fun _ h => by cases h), by decide, by decide⟩
    · rename_i hne
      split
      · have a8 := h1 _ (hd 8)
        have hle : Hand.ld32 (b.drop 8) ≤ 116 := by
          have : ¬ 116 < Hand.ld32 (b.drop 8) := fun h => hne (.inr h)
          omega
        refine ⟨by dsimp only; rw [List.length_take]; omega, fun y hy => hd 12 y (List.mem_of_mem_take hy), (h1 _ (hd 4)).1, (h1 _ (hd 4)).2⟩
      · exact ⟨by simp, (fun _ h => by cases h), by decide, by decide⟩
end Go.Proofs.Ytochnokfcfmgnaa.St
end

section
/- Seat F: which pages a root has taken: a map of numbers to true, and the closure over it. -/
namespace Go.Proofs.Ytochnokfcfmgnaa.St
open Go Go.RowKit Go.Proofs.Ytochnokfcfmgnaa.Mem Go.Proofs.YtochnokfcfmgnaaW.PrintWords Go.Proofs.Ytochnokfcfmgnaa.Dk Go.Maps Go.ChangeMaps Go.Proofs.Ytochnokfcfmgnaa.Sh Go.Proofs.Ytochnokfcfmgnaa.Sp
set_option linter.unusedVariables false
set_option linter.unusedSimpArgs false
set_option maxRecDepth 100000
set_option maxHeartbeats 4000000
theorem u59 : Try.prog.underlying 59 = some (.int .u64) := by kernel_rfl
theorem u116 : Try.prog.underlying 116 = some (.map 59 4) := by kernel_rfl
theorem law59 : Keyed Try.prog 59 := int_keyed u59
theorem zero4 (w : World) : (zeroValue 4).run Try.prog w = .ok (.bool false) w := by
  have h : (Try.prog.info? 4).map (fun i => i.zero) = some (some (.bool false)) := by kernel_rfl
  cases hi : Try.prog.info? 4 with
  | none => rw [hi] at h; cases h
  | some i => rw [hi] at h; injection h with h; simp [zeroValue, typeInfo, hi, h]
def ukey (n : Int) : Lit := .int .u64 n
def Ru (n : Int) : Prop := (Lit.int .u64 n).wf = true
theorem Ru.of {n : Int} (h0 : 0 ≤ n) (h1 : n < 18446744073709551616) : Ru n := by
  have e1 : IntKind.u64.min = 0 := by decide
  have e2 : IntKind.u64.max = 18446744073709551615 := by decide
  simp [Ru, Lit.wf, e1, e2]
  omega
theorem ukey_lit (n : Int) : WideAt.IsKeyLit (ukey n) := trivial
theorem ukey_inj {s t : Int} (h : ukey s = ukey t) : s = t := by
  unfold ukey at h
  injection h
theorem keyOf_u (n : Int) (h : Ru n) : keyOf Try.prog 59 (.int .u64 n) = some (ukey n) := keyOf_int_mk u59 h
/-- Block b is a map that has the numbers of a list. -/
def MU (w : World) (b : Nat) (l : List Int) : Prop :=
  ∃ D : DataW Value, w.ownsMap Try.prog 59 vR b l.length D ∧ ∀ n, Maps.has D (ukey n) = decide (n ∈ l) ∧ ∀ z, D.atKey (ukey n) (.held z) = .held (if n ∈ l then .bool true else z)
section
variable {w w' : World} {b : Nat} {l : List Int}
theorem MU.lt (h : MU w b l) : b < w.heap.size := by obtain ⟨D, h, _⟩ := h; exact h.lt
theorem MU.made (w : World) (h : w.heap[b]? = some (.map #[] 0)) : MU w b [] := ⟨.map [], ⟨#[], 0, h, ⟨by simp, MapKept.stamped_empty 0, by simp⟩, Nat.le_refl _, rfl⟩, fun i => ⟨rfl, fun z => rfl⟩⟩
theorem MU.step {S : Nat → Prop} (h : MU w b l) (ho : Only w w' S) (hb : ¬ S b) : MU w' b l := by
  obtain ⟨D, ⟨es, cl, hh, r⟩, k⟩ := h
  exact ⟨D, ⟨es, cl, (ho.block b (Array.getElem?_eq_some_iff.1 hh).1 hb).trans hh, r⟩, k⟩
theorem MU.below {B : Nat} (h : MU w b l) (hb : Below B w w') (hB : b < B) : MU w' b l := by
  obtain ⟨D, ⟨es, cl, hh, r⟩, k⟩ := h
  exact ⟨D, ⟨es, cl, (hb.block b hB).trans hh, r⟩, k⟩
theorem MU.alloc (h : MU w b l) (o : Obj) : MU (w.alloc o) b l := h.step ((Only.refl w (fun _ => False)).alloc o) (fun h => h)
theorem MU.drew (h : MU w b l) : MU w.drew b l := h
theorem MU.ne {g : Nat} {t : TypeId} {cs : List Value} (h : MU w b l) (hg : Blk w g t cs) : g ≠ b := by
  rintro rfl
  obtain ⟨D, ⟨es, cl, hh, r⟩, k⟩ := h
  unfold Blk at hg
  rw [hh] at hg
  cases hg
theorem MU.look (h : MU w b l) (n : Int) (hn : Ru n) : (Instr.lookup 116 (.map (some b)) (.int .u64 n) false).run Try.prog w = .ok (.bool (decide (n ∈ l))) w := by
  obtain ⟨D, ho, hk⟩ := h
  obtain ⟨v, ps, hrun, hv⟩ := ho.lookup law59 u116 (zero4 w) (show vR (.bool false) = some (.held _, []) from rfl) (keyOf_u n hn)
  have h1 := ((hk n).2 (.bool false)).symm.trans (vR_inv hv)
  have h2 : v = (if n ∈ l then .bool true else .bool false) := by injection h1 with h1; exact h1.symm
  rw [hrun, h2]
  by_cases h3 : n ∈ l
  · rw [if_pos h3, decide_eq_true h3]
  · rw [if_neg h3, decide_eq_false h3]
theorem MU.update (h : MU w b l) (hl : l.length < 100000) (n : Int) (hn : Ru n) :
    ∃ w', (Instr.mapUpdate 116 (.map (some b)) (.int .u64 n) (.bool true)).run Try.prog w = .ok () w' ∧ MU w' b (l ++ [n]) ∧ Only w w' (fun k => k = b) := by
  obtain ⟨D, ho, hk⟩ := h
  obtain ⟨w', hrun, ho', hg⟩ := ho.update law59 u116 (by unfold maxLen; omega) (keyOf_u n hn) (show vR (.bool true) = some (.held (.bool true), []) from rfl)
  refine ⟨w', hrun, ⟨_, by rw [List.length_append]; exact ho', fun x => ?_⟩, (Only.of_grown hg).mono (fun k _ h => by injection h)⟩
  by_cases hx : x = n
  · subst hx
    refine ⟨(has_put_same ho.isMap (ukey_lit _) _).trans (by simp), fun z => (atKey_put_same ho.isMap (ukey_lit _) _ _).trans (by simp)⟩
  · have hne : ukey x ≠ ukey n := fun h => hx (ukey_inj h)
    have hm : (x ∈ l ++ [n]) ↔ x ∈ l := by simp [hx]
    refine ⟨(has_put_other hne _).trans ((hk x).1.trans (by simp [hx])), fun z => (atKey_put_other hne _ _).trans (((hk x).2 z).trans ?_)⟩
    by_cases h2 : x ∈ l
    · rw [if_pos h2, if_pos (hm.2 h2)]
    · rw [if_neg h2, if_neg (fun h => h2 (hm.1 h))]
end
/-- Takes a page. -/
theorem take_c {w : World} {base g n b c8 c2 : Nat} {ok : Nat → Prop} {x : DV} {l : List Int} (hd : IsDisk w base ok g x) (hg : Dk.Good x n) (hM : MU w b l) (h8 : Blk w c8 116 [.map (some b)]) (h2 : Blk w c2 24 [.pointer (some ⟨g, 0, none⟩)]) (hl : l.length < 100000) (q : Int) (hq : 0 ≤ q ∧ q < 18446744073709551616) :
    Calls Try.prog 65 #[.int .u64 q, .pointer (some ⟨c8, 0, none⟩), .pointer (some ⟨c2, 0, none⟩)] w fun e w' => e = .returned (.bool (decide (¬ (q ∈ l ∨ ((n / 4 : Nat) : Int) ≤ q)))) ∧ MU w' b (l ++ [q]) ∧ Only w w' (fun k => k = b) := by
  have hRu := Ru.of hq.1 hq.2
  have hrun := hM.look q hRu
  have a8 := h8.cell_at 0 _ rfl
  have a2 := h2.cell_at 0 _ rfl
  obtain ⟨w1, hup, hM1, ho1⟩ := hM.update hl q hRu
  have CO := Lib.hid (Pg.count_any hd hg)
  have hn := hg.n2
  have HM1 := Lib.hid hM1
  have HO1 := Lib.hid ho1
  obtain ⟨c, hc⟩ : ∃ c, c = n / 4 := ⟨_, rfl⟩
  rw [← hc] at CO ⊢
  have hc1 : c ≤ 100000 := by omega
  have hcv : IntKind.u64.wrap (c : Int) = (c : Int) := by rw [Pure.wrap_u64]; omega
  clear hM h8 h2 hM1 ho1 hd hg hc hRu hn
  by_cases hm : q ∈ l
  · rw [decide_eq_true hm] at hrun
    rw [decide_eq_false (by simp [hm])]
    go_enter Try.func65, Try.ntmps65
    go_wp2_with fail
    go_ret
    exact ⟨rfl, HM1.out, HO1.out⟩
  · rw [decide_eq_false hm] at hrun
    by_cases hlt : (c : Int) ≤ q
    · have hlt2 : decide (q < (c : Int)) = false := decide_eq_false (by omega)
      rw [decide_eq_false (by simp [hlt])]
      go_enter Try.func65, Try.ntmps65
      go_wp2_with (first
        | (go_at_call 45; refine CO.out.mono ?_; rintro e wz ⟨rfl, hwz⟩; rw [← hwz]; clear hwz)
        | fail)
      go_ret
      exact ⟨rfl, HM1.out, HO1.out⟩
    · have hlt2 : decide (q < (c : Int)) = true := decide_eq_true (by omega)
      rw [decide_eq_true (by simp [hm, hlt])]
      go_enter Try.func65, Try.ntmps65
      go_wp2_with (first
        | (go_at_call 45; refine CO.out.mono ?_; rintro e wz ⟨rfl, hwz⟩; rw [← hwz]; clear hwz)
        | fail)
      go_ret
      exact ⟨rfl, HM1.out, HO1.out⟩
end Go.Proofs.Ytochnokfcfmgnaa.St
end
