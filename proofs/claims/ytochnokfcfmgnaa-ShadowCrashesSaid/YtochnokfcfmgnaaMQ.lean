/- Texts merged: a section each. -/
import Derived.RangeFuncNested
import Derived.RangeFuncBound
import Derived.RangeFuncCalls
import Derived.RangeFuncLeaves
import Derived.RangeFuncFrom
import Derived.Shelf.Abstract
import Derived.Shelf.RegionOpen
import Derived.WalkKit
import Derived.OwnWalkIn
import Derived.TacticsInMore
import Derived.LoopNIn
import Derived.LoopIn
import Derived.Test.YtochnokfcfmgnaaMB
import Derived.Test.YtochnokfcfmgnaaMP
import Derived.Shelf.SlIterI.Nil
import Derived.Shelf.SortM.Plain
import Derived.Shelf.SortM.SortNone
import Derived.Ground.GgzProg
import Derived.Ground.SlgmProg
import Derived.Test.YtochnokfcfmgnaaRows
import Derived.Test.YtochnokfcfmgnaaMX
section
/- Seat F: a nil store has no pages. -/
namespace Go.Proofs.Ytochnokfcfmgnaa.Sh
open Go.RowKit Go.Shelf Go.Proofs.Ytochnokfcfmgnaa.Mem
set_option linter.unusedVariables false
set_option linter.unusedSimpArgs false
attribute [local go_sem] Oper.semAt_some
set_option maxRecDepth 100000
set_option maxHeartbeats 2000000
theorem values1_nil_in (F : Fence) (n : Nat) (hf : F.fn 56) (hro : F.round = none) (l Bs : Nat) (J : List Int → World → Prop) (W : World) (hBs : W.cell? ⟨Bs, 0, none⟩ = some (.slice none 0 0)) (h0 : J [] W) :
    CallsIn F n Try.prog 56 #[.func (.yield l) #[] #[], .pointer (some ⟨Bs, 0, none⟩)] W fun e W' => (∃ v, e = .returned v) ∧ J [] W' := by
  refine callsIn_of_wp Try.func56 rfl hf ?_ hro
  simp only [Try.ntmps56, List.size_toArray, List.length_cons, List.length_nil, Nat.reduceAdd, Nat.reduceSub, Array.replicate_succ, Array.replicate_zero, List.push_toArray, List.append_toArray, List.nil_append, List.cons_append]
  gi_wp2
  gi_loopw [7] (fun i wr => i = .int .i64 0 ∧ J [] wr) (fun _ _ => 0)
  case atStart => exact ⟨rfl, h0⟩
  case round =>
    obtain ⟨rfl, hJs⟩ := hrel
    gi_wp2
    go_end0
    exact ⟨⟨_, rfl⟩, hJs⟩
theorem func_ne (x : Array Value) (w : World) : (binOp BinOp.eql 47 (.func (.func 56) #[] x) .nilFunc).run Try.prog w = .ok (.bool false) w := by kernel_rfl
end Go.Proofs.Ytochnokfcfmgnaa.Sh
end

section
/- Seat F: a store's Pages: the keys of a map, sorted; slices.Values, and its iterator. -/
namespace Go.Proofs
open Go.RowKit Go.Maps Go.Sort Go.Shelf
shelf_lay_g SlLaysZI.n7 Ggz 7 at Try 39 as Try.keysA
shelf_lay_g SlLaysZI.n6 Ggz 6 at Try 38 as Try.sortedA
shelf_lay_g SlLaysM.n5 Slgm 5 at Try 54 as Try.sortA
theorem Try.sortsA (m : Nat) : AnyZI.SortsIn Try.prog Try.sortedA_ren Fence.wide m :=
  ⟨fun blk off cap ss W hH hblk hsz => callsIn_wide.2 (AnyM.slices_Sort_int Try.sortA blk off cap ss W hH hblk hsz),
   fun p cap W => callsIn_wide.2 (AnyM.slices_Sort_int_none Try.sortA p cap W)⟩
theorem Try.maps_KeysA (mb : Option Nat) (W : World) : CallsIn Fence.wide 5 Try.prog 39 #[.map mb] W fun e w' => e = .returned (.func (.func 55) #[] #[.pointer (some ⟨W.heap.size, 0, none⟩)]) ∧ w' = W.alloc (.cells #[.map mb] 74) :=
  AnyZI.keys_in Try.keysA Fence.wide 5 trivial rfl mb W
set_option maxHeartbeats 1000000 in
theorem Try.slices_SortedA {H : Type} (b nn : Nat) (D0 : DataW H) (R : Value → Option (DataW H × List MemPlace)) (w : World) (hown : w.ownsMap Try.prog 3 R b nn D0) (hmax : Maps.size D0 ≤ maxLen) (hbytes : Maps.size D0 * 8 ≤ 140737488355328) :
    CallsIn Fence.wide 5 Try.prog 38 #[.func (.func 55) #[] #[.pointer (some ⟨w.heap.size, 0, none⟩)]] (w.alloc (.cells #[.map (some b)] 74)) fun e w' => ∃ (v : Value) (ss : List Int), e = .returned v ∧ ss.Perm (intKeys D0) ∧
      w'.ownsRow (w.alloc (.cells #[.map (some b)] 74)).heap.size 3 1 v ss.length ((ss.mergeSort (fun x y => decide (x ≤ y))).map encZ) ∧ (v = .slice none 0 0 ↔ ss = []) ∧ Below (w.alloc (.cells #[.map (some b)] 74)).heap.size (w.alloc (.cells #[.map (some b)] 74)) w' := by
  have hbl := hown.lt
  have hseq : SeqGives Fence.wide 2 Try.prog 55 #[.pointer (some ⟨w.heap.size, 0, none⟩)] encZ (fun ss => ss.Perm (intKeys D0)) (Maps.size D0) (w.alloc (.cells #[.map (some b)] 74)) :=
    AnyZI.keys_gives (ρ := Try.keysA_ren) { Try.keysA with } Fence.wide _ trivial rfl (by omega) w.heap.size b nn D0 _ (by simp) (by simp) (by
      obtain ⟨es, clock, hb, Ft, hs, hD⟩ := hown
      exact ⟨es, clock, (Below.heap_alloc _ _ b hbl).trans hb, Ft, hs, hD⟩)
  exact AnyZI.sorted_in Try.sortedA Fence.wide 5 trivial trivial trivial trivial rfl (by omega) (Try.sortsA _) (enters_of Try.func54 (by kernel_rfl) rfl) 55 #[.pointer (some ⟨w.heap.size, 0, none⟩)] trivial (enters_of Try.func55 (by kernel_rfl) rfl) _ _ hmax hbytes _ hseq
end Go.Proofs
namespace Go.Proofs.Ytochnokfcfmgnaa.St
open Go Go.RowKit Go.Shelf Go.Proofs.Ytochnokfcfmgnaa.Mem Go.Proofs.YtochnokfcfmgnaaW.PrintWords Go.Proofs.Ytochnokfcfmgnaa.Dk Go.Maps Go.ChangeMaps Go.Proofs.Ytochnokfcfmgnaa.Sh
set_option linter.unusedVariables false
set_option linter.unusedSimpArgs false
attribute [local go_sem] Oper.semAt_some
set_option maxRecDepth 100000
set_option maxHeartbeats 4000000
/-- The pages that have data, rising. -/
def keysN (f : PM) : List Nat := (List.range 728).filter (fun i => (f i).isSome)
def keysI (f : PM) : List Int := (keysN f).map Int.ofNat
theorem mem_keysN {f : PM} {i : Nat} : i ∈ keysN f ↔ i < 728 ∧ (f i).isSome = true := by unfold keysN; rw [List.mem_filter, List.mem_range]
theorem keysN_pairwise (f : PM) : (keysN f).Pairwise (· < ·) := List.Pairwise.sublist List.filter_sublist List.pairwise_lt_range
theorem keysN_len (f : PM) : (keysN f).length ≤ 728 := by have := List.length_filter_le (fun i => (f i).isSome) (List.range 728); simpa [keysN] using this
theorem keysI_len (f : PM) : (keysI f).length ≤ 728 := by unfold keysI; rw [List.length_map]; exact keysN_len f
theorem sorted_keys {w : World} {b : Nat} {m : Int → Option Value} {f : PM} {ok : Nat → Prop} {D : DataW Value} (hown : w.ownsMap Try.prog 3 vR b (Maps.size D) D) (hk : ∀ i, Maps.has D (key i) = (m i).isSome) (hdom : ∀ i : Int, (m i).isSome = true → 0 ≤ i ∧ i < ((728 : Nat) : Int)) (hat : ∀ i : Nat, PgAt w ok (m (i : Int)) (f i))
    {ss : List Int} (hp : ss.Perm (intKeys D)) : ss.mergeSort (fun x y => decide (x ≤ y)) = keysI f := by
  have hsome : ∀ i : Nat, (m (i : Int)).isSome = (f i).isSome := fun i => by
    have h := hat i
    cases hf : f i with
    | none => rw [hf] at h; have h : m (i : Int) = none := h; rw [h]; rfl
    | some p => rw [hf] at h; obtain ⟨v, h1, _⟩ := h; rw [h1]; rfl
  have hc : CollectedI D (fun _ => false) (keysI f) := by
    refine ⟨?_, fun x => ?_⟩
    · unfold keysI
      refine List.pairwise_map.2 ((keysN_pairwise f).imp fun {a b} h e => ?_)
      have : (a : Int) = (b : Int) := e
      omega
    · have h1 := hk x
      rw [show key x = .int .i64 x from rfl] at h1
      rw [h1]
      simp only [and_true, keysI, List.mem_map]
      constructor
      · rintro ⟨i, hi, rfl⟩
        have h2 := (mem_keysN.1 hi).2
        rw [← hsome i] at h2
        exact h2
      · intro h
        obtain ⟨h2, h3⟩ := hdom x h
        refine ⟨x.toNat, mem_keysN.2 ⟨by omega, ?_⟩, by show ((x.toNat : Nat) : Int) = x; omega⟩
        rw [← hsome, Int.toNat_of_nonneg h2]
        exact h
  have hp2 := hc.perm hown law3 u3 (fun _ => rfl)
  have tr : ∀ a b c : Int, decide (a ≤ b) = true → decide (b ≤ c) = true → decide (a ≤ c) = true := fun a b c h1 h2 => by simp only [decide_eq_true_eq] at *; omega
  have tot : ∀ a b : Int, (decide (a ≤ b) || decide (b ≤ a)) = true := fun a b => by simp only [Bool.or_eq_true, decide_eq_true_eq]; omega
  have hs : (keysI f).Pairwise (fun a b => decide (a ≤ b) = true) := by
    unfold keysI
    refine List.pairwise_map.2 ((keysN_pairwise f).imp fun {a b} h => ?_)
    have : (a : Int) ≤ (b : Int) := by omega
    exact decide_eq_true this
  refine List.Perm.eq_of_pairwise (le := fun a b => decide (a ≤ b) = true) (fun a b _ _ h1 h2 => ?_) (List.pairwise_mergeSort tr tot ss) hs (((List.mergeSort_perm ss _).trans hp).trans hp2.symm)
  simp only [decide_eq_true_eq] at h1 h2
  omega
theorem values_any (v : Value) (w : World) (hv : ∃ A n c, v = .slice A n c) : Calls Try.prog 40 #[v] w fun e w' => e = .returned (.func (.func 56) #[] #[.pointer (some ⟨w.heap.size, 0, none⟩)]) ∧ w' = w.alloc (.cells #[v] 43) := by
  obtain ⟨A, n, c, rfl⟩ := hv
  have hmf : ∀ (fn : Fn) (first cap : Array Value) (w : World), (Instr.makeFunc fn first cap).run Try.prog w = .ok (.func fn first cap) w := fun _ _ _ _ => rfl
  go_enter Try.func40, Try.ntmps40
  go_wp2
  go_ret
  exact ⟨rfl, rfl⟩
theorem pages_in {w : World} {own : Nat → Nat} {base g s : Nat} {S : SV} (h : St w own base g s S) :
    CallsIn Fence.wide 6 Try.prog 18 #[.pointer (some ⟨s, 0, none⟩)] w fun e w' => ∃ B v, e = .returned (.func (.func 56) #[] #[.pointer (some ⟨B, 0, none⟩)]) ∧ w.heap.size ≤ B ∧ Blk w' B 43 [v] ∧ Row w' (fun k => w.heap.size ≤ k) .i64 v (keysI S.now) ∧ Below w.heap.size w w' := by
  obtain ⟨bk, bn, tv, hs, _, _, _, _, _, _, ⟨m, ⟨D, hown, hD⟩, hdom, hat⟩⟩ := h.blk
  have hsz : Maps.size D ≤ 728 := Mp.size_le hown 728 (fun i hi => hdom i (by rw [← (hD i).1]; exact hi))
  have cK : ∀ W, CallsIn Fence.wide 5 Try.prog 39 #[.map (some bn)] W fun e w' => e = .returned (.func (.func 55) #[] #[.pointer (some ⟨W.heap.size, 0, none⟩)]) ∧ w' = W.alloc (.cells #[.map (some bn)] 74) := fun W => Try.maps_KeysA (some bn) W
  have cS := Lib.hid (Try.slices_SortedA bn _ D vR w hown (by unfold maxLen; omega) (by omega))
  have HSK := Lib.hid (fun (ss : List Int) (hp : ss.Perm (intKeys D)) => sorted_keys hown (fun i => (hD i).1) hdom hat hp)
  have HLN := Lib.hid (fun (ss : List Int) (hp : ss.Perm (intKeys D)) => show ss.length = (keysI S.now).length by rw [← sorted_keys hown (fun i => (hD i).1) hdom hat hp, List.length_mergeSort])
  have c5 := hs.cell_at 5 _ rfl
  have c6 := hs.cell_at 6 _ rfl
  clear hs hown hD hdom hat h
  refine callsIn_of_wp Try.func18 rfl trivial ?_ rfl
  simp only [Try.ntmps18, List.size_toArray, List.length_cons, List.length_nil, Nat.reduceAdd, Nat.reduceSub, Array.replicate_succ, Array.replicate_zero, List.push_toArray, List.append_toArray, List.nil_append, List.cons_append]
  have hf1 : Fence.wide.fn 39 := trivial
  have hf2 : Fence.wide.fn 38 := trivial
  have hf3 : Fence.wide.fn 40 := trivial
  gi_wp2_with (first
    | (gi_at_call 39; refine (cK _).mono ?_; rintro e w1 ⟨rfl, rfl⟩)
    | (gi_at_call 38; refine cS.out.mono ?_; rintro e w2 ⟨v, ss, rfl, hp, hrow, hnil, hb⟩; rw [HSK.out ss hp, HLN.out ss hp] at hrow; have HROW := Lib.hid hrow; have HB := Lib.hid hb; have hvs : ∃ A n c, v = .slice A n c := (by rcases hrow.2 with ⟨hv, _⟩ | ⟨g, cap, cur, hv, _⟩ <;> exact ⟨_, _, _, hv⟩); clear hp hrow hnil hb)
    | (gi_at_call 40; refine (callsIn_wide.2 (values_any v _ hvs)).mono ?_; rintro e w3 ⟨rfl, hw3⟩; rw [hw3]; clear hw3)
    | fail)
  go_ret
  have hb := HB.out
  have B1 : Below w.heap.size w w2 := ((Below.refl _ w).alloc (Nat.le_refl _) _).trans (hb.mono (by simp))
  refine ⟨w2.heap.size, v, rfl, B1.size, Blk.new w2 43 [v], ?_, B1.alloc B1.size _⟩
  have hr : (Kd.int .i64).R 3 w2 (w.alloc (.cells #[.map (some bn)] 74)).heap.size (fun _ => True) v (keysI S.now) := Kd.R_of_own (enc := Value.int .i64) (h1 := fun _ => rfl) HROW.out (fun _ _ => trivial)
  exact ((Row.of_R (Kd.R_bound hr) (by have := keysI_len S.now; omega)).mono (fun b _ hb => by have := hb.2.1; simp at this; omega)).keep ((Only.refl w2 (fun _ => False)).alloc _) (fun _ _ h => h)
theorem pages_c {w : World} {own : Nat → Nat} {base g s : Nat} {S : SV} (h : St w own base g s S) :
    Calls Try.prog 18 #[.pointer (some ⟨s, 0, none⟩)] w fun e w' => ∃ B v, e = .returned (.func (.func 56) #[] #[.pointer (some ⟨B, 0, none⟩)]) ∧ w.heap.size ≤ B ∧ Blk w' B 43 [v] ∧ Row w' (fun k => w.heap.size ≤ k) .i64 v (keysI S.now) ∧ Below w.heap.size w w' :=
  callsIn_wide.1 (pages_in h)
end Go.Proofs.Ytochnokfcfmgnaa.St
end

section
/- Numbers by seven bits and lists of bytes, written and read, in plain words: what is written is read again, nothing else is read, and a byte less or more is told. No condition but that bytes are bytes and lengths lie below 2^63. -/
namespace Go.Proofs.Ytochnokfcfmgnaa.Sp
set_option linter.unusedVariables false
/-- A number's bytes. -/
def enc (n : Nat) : List Int := if n < 128 then [(n : Int)] else (((128 + n % 128 : Nat) : Int)) :: enc (n / 128)
termination_by n
decreasing_by omega
/-- A number, of at most d bytes; f: is it the first byte? -/
def rdP : Nat → Bool → List Int → Option (Nat × List Int)
  | 0, _, _ => none
  | _ + 1, _, [] => none
  | d + 1, f, c :: r => if c < 128 then (if c = 0 ∧ f = false then none else some (c.toNat, r)) else (rdP d false r).map fun p => (c.toNat - 128 + 128 * p.1, p.2)
theorem enc_small {n : Nat} (h : n < 128) : enc n = [(n : Int)] := by rw [enc, if_pos h]
theorem enc_big {n : Nat} (h : ¬ n < 128) : enc n = ((128 + n % 128 : Nat) : Int) :: enc (n / 128) := by rw [enc, if_neg h]
theorem enc_pos (n : Nat) : 1 ≤ (enc n).length := by rw [enc]; split <;> simp
theorem rd_enc : ∀ (d n : Nat) (f : Bool) (r : List Int), n < 128 ^ (d + 1) → (n ≠ 0 ∨ f = true) → rdP (d + 1) f (enc n ++ r) = some (n, r)
  | d, n, f, r, h, hf => by
    by_cases c : n < 128
    · rw [enc_small c]
      show (if (n : Int) < 128 then _ else _) = _
      rw [if_pos (by omega), if_neg (by rintro ⟨a, b⟩; subst b; rcases hf with hf | hf; · omega
                                        · cases hf)]
      simp
    · cases d with
      | zero => simp at h; omega
      | succ d =>
        rw [enc_big c, List.cons_append]
        show (if ((128 + n % 128 : Nat) : Int) < 128 then _ else _) = _
        rw [if_neg (by omega), rd_enc d (n / 128) false r (by rw [Nat.pow_succ] at h; omega) (.inl (by omega))]
        simp only [Option.map_some, Int.toNat_natCast, Option.some.injEq, Prod.mk.injEq, and_true]
        omega
theorem rd_back : ∀ (d : Nat) (f : Bool) (l : List Int) (n : Nat) (r : List Int), (∀ x ∈ l, 0 ≤ x ∧ x < 256) → rdP d f l = some (n, r) → l = enc n ++ r ∧ n < 128 ^ d ∧ (n ≠ 0 ∨ f = true)
  | 0, f, l, n, r, hx, h => by simp [rdP] at h
  | d + 1, f, [], n, r, hx, h => by simp [rdP] at h
  | d + 1, f, c :: l, n, r, hx, h => by
    have hc := hx c List.mem_cons_self
    rw [rdP] at h
    by_cases e : c < 128
    · rw [if_pos e] at h
      by_cases g : c = 0 ∧ f = false
      · rw [if_pos g] at h; cases h
      · rw [if_neg g] at h
        injection h with h
        injection h with h1 h2
        subst h1 h2
        have hp : 1 ≤ 128 ^ d := Nat.pos_of_ne_zero (by simp)
        refine ⟨?_, by rw [Nat.pow_succ]; omega, ?_⟩
        · rw [enc_small (by omega)]
          simp; omega
        · by_cases e0 : c = 0
          · right
            cases f with
            | false => exact absurd ⟨e0, rfl⟩ g
            | true => rfl
          · left; omega
    · rw [if_neg e] at h
      cases h2 : rdP d false l with
      | none => rw [h2] at h; cases h
      | some p =>
        obtain ⟨m, q⟩ := p
        rw [h2] at h
        simp only [Option.map_some, Option.some.injEq, Prod.mk.injEq] at h
        obtain ⟨h3, rfl⟩ := h
        obtain ⟨i1, i2, i3⟩ := rd_back d false l m q (fun x hm => hx x (List.mem_cons_of_mem _ hm)) h2
        have hm : m ≠ 0 := by rcases i3 with i3 | i3; · exact i3
                              · cases i3
        refine ⟨?_, by rw [Nat.pow_succ]; omega, .inl (by omega)⟩
        rw [enc_big (by omega), show n / 128 = m by omega, List.cons_append, ← i1]
        congr 1
        omega
theorem rd_len {d : Nat} {f : Bool} {l : List Int} {n : Nat} {r : List Int} (hx : ∀ x ∈ l, 0 ≤ x ∧ x < 256) (h : rdP d f l = some (n, r)) : r.length < l.length := by
  obtain ⟨h1, _⟩ := rd_back d f l n r hx h
  have := enc_pos n
  rw [h1, List.length_append]; omega
/-- Lists of bytes, each behind its length. -/
def cat : List (List Int) → List Int
  | [] => []
  | b :: r => enc b.length ++ (b ++ cat r)
def joinP (l : List (List Int)) : List Int := enc l.length ++ cat l
/-- n lists, and what is left. -/
def splN : Nat → List Int → Option (List (List Int) × List Int)
  | 0, r => some ([], r)
  | n + 1, r => match rdP 9 true r with
    | none => none
    | some (k, q) => if q.length < k then none else (splN n (q.drop k)).map fun p => (q.take k :: p.1, p.2)
def splitP (b : List Int) : Option (List (List Int)) := match rdP 9 true b with
  | none => none
  | some (n, r) => if b.length < n then none else match splN n r with
    | some (z, []) => some z
    | _ => none
theorem enc_byte : ∀ (n : Nat), ∀ x ∈ enc n, 0 ≤ x ∧ x < 256 := by
  intro n
  induction n using Nat.strongRecOn with
  | _ n ih =>
    by_cases c : n < 128
    · rw [enc_small c]; intro x hm; simp at hm; omega
    · rw [enc_big c]
      intro x hm
      rcases List.mem_cons.1 hm with rfl | hm
      · omega
      · exact ih (n / 128) (by omega) x hm
theorem enc_len : ∀ (d n : Nat), n < 128 ^ (d + 1) → (enc n).length ≤ d + 1
  | d, n, h => by
    by_cases c : n < 128
    · rw [enc_small c]; simp
    · cases d with
      | zero => simp at h; omega
      | succ d =>
        rw [enc_big c, List.length_cons]
        have := enc_len d (n / 128) (by rw [Nat.pow_succ] at h; omega)
        omega
end Go.Proofs.Ytochnokfcfmgnaa.Sp
end

section
/- Bits of numbers, plain. -/
namespace Go.Proofs.Ytochnokfcfmgnaa.Pure
open Go.RowKit Go.Proofs.YtochnokfcfmgnaaW.PrintWords Go.Proofs.YtochnokfcfmgnaaW.PrintLast Go.Proofs.YtochnokfcfmgnaaW.PrintMore
set_option linter.unusedVariables false
set_option linter.unusedSimpArgs false
theorem wrap_u64 (n : Int) : IntKind.u64.wrap n = n % 18446744073709551616 := by simp [IntKind.wrap, IntKind.bits, IntKind.signed]
theorem wrap_u8 (n : Int) : IntKind.u8.wrap n = n % 256 := by simp [IntKind.wrap, IntKind.bits, IntKind.signed]
theorem u64_63 (c : Int) (h0 : 0 ≤ c) (h1 : c < 18446744073709551616) : Go.bits .and .u64 c 9223372036854775807 = c % 9223372036854775808 :=
  bits_mask .u64 64 (by decide) (fun n a b => by rw [wrap_u64]; omega) 63 (by decide) c h0 h1
theorem u8_127 (c : Int) (h0 : 0 ≤ c) (h1 : c < 256) : Go.bits .and .u8 c 127 = c % 128 :=
  bits_mask .u8 8 (by decide) (fun n a b => by rw [wrap_u8]; omega) 7 (by decide) c h0 h1
theorem or128 (n : Int) (h0 : 0 ≤ n) : Go.bits .or .u8 (n % 256) 128 = 128 + n % 128 := by
  obtain ⟨m, rfl⟩ := Int.eq_ofNat_of_zero_le h0
  show IntKind.u8.wrap (((BitVec.ofInt 8 ((m : Int) % 256)) ||| (BitVec.ofInt 8 128)).toNat : Int) = _
  have h1 : (BitVec.ofInt 8 ((m : Int) % 256)).toNat = m % 256 := by
    have : ((m : Int) % 256) = ((m % 256 : Nat) : Int) := by omega
    rw [this, BitVec.ofInt_natCast, BitVec.toNat_ofNat]; omega
  have h2 : (BitVec.ofInt 8 128).toNat = 128 := by decide
  rw [BitVec.toNat_or, h1, h2, wrap_u8]
  have key : ∀ b : Nat, b < 256 → (b ||| 128) = 128 + b % 128 := by decide +kernel
  rw [key _ (by omega)]
  omega
/-- Seven bits more, above those that are there. -/
theorem join (i : Nat) (hi : i ≤ 8) (a c : Int) (ha : 0 ≤ a) (ha2 : a < 2 ^ (7 * i)) (hc : 0 ≤ c) (hc2 : c < 128) :
    Go.bits .or .u64 a (shl .u64 (IntKind.u64.wrap c) (wrap64 (7 * (i : Int)))) = a + c * 2 ^ (7 * i) ∧
    IntKind.u64.wrap (a + shl .u64 (IntKind.u64.wrap c) (IntKind.u64.wrap (wrap64 (7 * (i : Int))))) = a + c * 2 ^ (7 * i) ∧ a + c * 2 ^ (7 * i) < 2 ^ (7 * (i + 1)) := by
  obtain ⟨A, rfl⟩ := Int.eq_ofNat_of_zero_le ha
  obtain ⟨C, rfl⟩ := Int.eq_ofNat_of_zero_le hc
  have hA : A < 2 ^ (7 * i) := by exact_mod_cast ha2
  have hCw : IntKind.u64.wrap (C : Int) = C := by rw [wrap_u64]; omega
  have hs : wrap64 (7 * (i : Int)) = ((7 * i : Nat) : Int) := by rw [w64 (by omega) (by omega)]; omega
  have hs2 : IntKind.u64.wrap ((7 * i : Nat) : Int) = ((7 * i : Nat) : Int) := by rw [wrap_u64]; omega
  have hm : min (7 * i) IntKind.u64.bits = 7 * i := by simp [IntKind.bits]; omega
  have hp : 2 ^ (7 * i) ≤ 2 ^ 56 := Nat.pow_le_pow_right (by decide) (by omega)
  have hC : C * 2 ^ (7 * i) ≤ 127 * 2 ^ (7 * i) := Nat.mul_le_mul (by omega) (Nat.le_refl _)
  have hsum : A + C * 2 ^ (7 * i) < 2 ^ (7 * (i + 1)) := by
    rw [show 7 * (i + 1) = 7 * i + 7 by omega, Nat.pow_add]
    have : (2 : Nat) ^ 7 = 128 := rfl
    omega
  have hbig : C * 2 ^ (7 * i) < 2 ^ 64 := by
    have : (127 : Nat) * 2 ^ 56 < 2 ^ 64 := by decide
    omega
  have hsl : shl .u64 (C : Int) ((7 * i : Nat) : Int) = ((C * 2 ^ (7 * i) : Nat) : Int) := by
    unfold shl
    rw [Int.toNat_natCast, hm, wrap_u64]
    have : ((C : Int) * 2 ^ (7 * i)) = ((C * 2 ^ (7 * i) : Nat) : Int) := by simp
    rw [this]
    omega
  have hcast : ((A : Int) + (C : Int) * 2 ^ (7 * i)) = ((A + C * 2 ^ (7 * i) : Nat) : Int) := by simp
  rw [hs, hs2, hCw, hsl, hcast]
  have hA64 : A < 2 ^ 64 := by
    have : (2 : Nat) ^ 56 < 2 ^ 64 := by decide
    omega
  have hb64 : A + C * 2 ^ (7 * i) < 2 ^ 64 := by
    have : (128 : Nat) * 2 ^ 56 < 2 ^ 64 := by decide
    omega
  refine ⟨?_, ?_, by exact_mod_cast hsum⟩
  · show IntKind.u64.wrap (((BitVec.ofInt 64 (A : Int)) ||| (BitVec.ofInt 64 ((C * 2 ^ (7 * i) : Nat) : Int))).toNat : Int) = _
    have h1 : (BitVec.ofInt 64 (A : Int)).toNat = A := by simp; omega
    have h2 : (BitVec.ofInt 64 ((C * 2 ^ (7 * i) : Nat) : Int)).toNat = C * 2 ^ (7 * i) := by
      rw [BitVec.ofInt_natCast, BitVec.toNat_ofNat]; exact Nat.mod_eq_of_lt hbig
    rw [BitVec.toNat_or, h1, h2, Nat.or_comm, Nat.mul_comm, ← Nat.two_pow_add_eq_or_of_lt hA, wrap_u64]
    rw [Nat.mul_comm] at hb64
    rw [Nat.mul_comm]
    omega
  · rw [show ((A : Int) + ((C * 2 ^ (7 * i) : Nat) : Int)) = ((A + C * 2 ^ (7 * i) : Nat) : Int) by omega, wrap_u64]
    omega
end Go.Proofs.Ytochnokfcfmgnaa.Pure
end

section
/- What the program's reader and writer of numbers answer, in plain words (Sp.rdP, Sp.enc); no condition but that bytes are bytes. -/
namespace Go.Proofs.Ytochnokfcfmgnaa.Rd
set_option linter.unusedVariables false
set_option linter.unusedSimpArgs false
open Go.RowKit Go.Proofs.Ytochnokfcfmgnaa.PShadowCrashes Go.Proofs.YtochnokfcfmgnaaW.PrintWords Go.Proofs.YtochnokfcfmgnaaW.PrintLast Go.Proofs.YtochnokfcfmgnaaW.PrintMore
open Go.Proofs.Ytochnokfcfmgnaa.Pure Go.Proofs.Ytochnokfcfmgnaa.Sp
/-- What Read answers at a place. -/
def rdV (xs : List Int) (at_ : Nat) : Int × Int × Int := match rdP 9 true (xs.drop at_) with
  | none => (0, 0, 9)
  | some (n, r) => ((n : Int), ((xs.length - r.length : Nat) : Int), 0)
def rdW (xs : List Int) (at_ i d : Nat) (a : Int) : Int × Int × Int := match rdP d (decide (i = 0)) (xs.drop (at_ + i)) with
  | none => (0, 0, 9)
  | some (n, r) => (a + (n : Int) * 2 ^ (7 * i), ((xs.length - r.length : Nat) : Int), 0)
theorem rd_at (xs : List Int) (p : Nat) (h : p < xs.length) : xs.drop p = xs[p] :: xs.drop (p + 1) := List.drop_eq_getElem_cons h
set_option maxHeartbeats 1000000 in
theorem readv_l0 (xs : List Int) (hx : ∀ x ∈ xs, 0 ≤ x ∧ x < 256) (hn : xs.length ≤ 140737488351232) (at_ : Nat) (hat : at_ ≤ xs.length) (d : Nat) : ∀ (k i : Nat) (a : Int), i + d = 9 → 2 * d + 2 ≤ k → 0 ≤ a → a < 2 ^ (7 * i) →
    sum_Read.l0 k xs (at_ : Int) a (i : Int) = some (rdW xs at_ i d a) := by
  induction d with
  | zero =>
    intro k i a h hk h0 h1
    obtain ⟨k, rfl⟩ : ∃ m, k = m + 1 + 1 := ⟨k - 2, by omega⟩
    rw [sum_Read.l0, if_neg (by omega), sum_Read.j2, if_neg (by simp)]
    rfl
  | succ d ih =>
    intro k i a h hk h0 h1
    obtain ⟨k, rfl⟩ : ∃ m, k = m + 1 + 1 := ⟨k - 2, by omega⟩
    have hw : wrap64 ((at_ : Int) + (i : Int)) = ((at_ + i : Nat) : Int) := by rw [w64 (by omega) (by omega)]; omega
    have hw7 : 0 ≤ wrap64 (7 * (i : Int)) := by rw [w64 (by omega) (by omega)]; omega
    by_cases c : at_ + i < xs.length
    · have hr : rd xs ((at_ + i : Nat) : Int) = xs[at_ + i] := by
        show xs.getD (((at_ + i : Nat) : Int)).toNat 0 = _
        rw [Int.toNat_natCast]; simp [c]
      have hb := hx _ (List.getElem_mem c)
      have hd := rd_at xs (at_ + i) c
      generalize xs[at_ + i] = b at *
      have hj1 := join i (by omega) a (b % 128) h0 h1 (by omega) (by omega)
      have hV0 : 0 ≤ a + b % 128 * 2 ^ (7 * i) := by
        have : 0 ≤ (b % 128) * 2 ^ (7 * i) := Int.mul_nonneg (by omega) (by exact_mod_cast Nat.zero_le _)
        omega
      obtain ⟨V, hV⟩ : ∃ V, a + b % 128 * 2 ^ (7 * i) = V := ⟨_, rfl⟩
      rw [hV] at hj1 hV0
      have P : sum_Read.l0 (k + 1 + 1) xs (at_ : Int) a (i : Int) = (if b < 128 then (if b = 0 then (if (i : Int) > 0 then some (0, 0, 9) else some (V, wrap64 (((at_ + i : Nat) : Int) + 1), 0)) else some (V, wrap64 (((at_ + i : Nat) : Int) + 1), 0)) else sum_Read.l0 k xs (at_ : Int) V (wrap64 ((i : Int) + 1))) := by
        rw [sum_Read.l0, if_pos (by omega), hw, sum_Read.j2, if_pos (by simp; omega), hw, hr, if_pos (by omega), if_pos (by omega), if_pos hw7, u8_127 b hb.1 hb.2, hj1.1]
      have hw1 : wrap64 (((at_ + i : Nat) : Int) + 1) = ((xs.length - (xs.drop (at_ + i + 1)).length : Nat) : Int) := by
        rw [w64 (by omega) (by omega), List.length_drop]; omega
      rw [P, hw1]
      unfold rdW
      rw [hd, rdP]
      by_cases e : b < 128
      · have hVb : a + (b.toNat : Int) * 2 ^ (7 * i) = V := by rw [← hV, show (b.toNat : Int) = b % 128 by omega]
        rw [if_pos e, if_pos e]
        by_cases f : b = 0
        · rw [if_pos f]
          by_cases g : (i : Int) > 0
          · rw [if_pos g, if_pos ⟨f, by simp; omega⟩]
          · rw [if_neg g, if_neg (by rintro ⟨_, h2⟩; simp at h2; omega)]
            show _ = some (_, _, _)
            rw [hVb]
        · rw [if_neg f, if_neg (by rintro ⟨h2, _⟩; exact f h2)]
          show _ = some (_, _, _)
          rw [hVb]
      · rw [if_neg e, if_neg e, w64 (i := (i : Int) + 1) (by omega) (by omega), show (i : Int) + 1 = ((i + 1 : Nat) : Int) by omega, ih k (i + 1) _ (by omega) (by omega) hV0 hj1.2.2]
        unfold rdW
        rw [show at_ + (i + 1) = at_ + i + 1 by omega, show decide (i + 1 = 0) = false by simp]
        cases rdP d false (xs.drop (at_ + i + 1)) with
        | none => rfl
        | some p =>
          obtain ⟨n, r⟩ := p
          simp only [Option.map_some, Option.some.injEq, Prod.mk.injEq, and_true]
          rw [← hV, show ((b.toNat - 128 + 128 * n : Nat) : Int) = b % 128 + 128 * (n : Int) by omega, show 7 * (i + 1) = 7 * i + 7 by omega, Int.pow_add, Int.add_mul]
          have : (2 : Int) ^ 7 = 128 := rfl
          rw [this, Int.add_assoc]
          congr 2
          rw [Int.mul_comm 128 (n : Int), Int.mul_assoc, Int.mul_comm 128]
    · rw [sum_Read.l0, if_pos (by omega), hw, sum_Read.j2, if_neg (by simp; omega)]
      unfold rdW
      rw [List.drop_eq_nil_of_le (by omega)]
      rfl
theorem read_val (xs : List Int) (hx : ∀ x ∈ xs, 0 ≤ x ∧ x < 256) (hn : xs.length ≤ 140737488351232) (a : Nat) (ha : a ≤ xs.length) (k : Nat) (hk : 30 ≤ k) : sum_Read.f k xs (a : Int) = some (rdV xs a) := by
  obtain ⟨k, rfl⟩ : ∃ m, k = m + 1 := ⟨k - 1, by omega⟩
  unfold sum_Read.f
  rw [if_neg (by omega), sum_Read.j0, if_neg (by simp; omega)]
  have := readv_l0 xs hx hn a ha 9 k 0 0 rfl (by omega) (by omega) (by decide)
  rw [show ((0 : Nat) : Int) = 0 from rfl] at this
  rw [this]
  unfold rdW rdV
  rw [show decide ((0 : Nat) = 0) = true by simp, Nat.add_zero]
  cases rdP 9 true (xs.drop a) with
  | none => rfl
  | some p => simp
theorem put_val (d : Nat) : ∀ (k : Nat) (xs : List Int) (n : Nat), n < 128 ^ (d + 1) → d + 1 ≤ k → xs.length + d + 1 ≤ 140737488355328 → sum_Put.l0 k xs (n : Int) = some (xs ++ enc n) := by
  induction d with
  | zero =>
    intro k xs n h1 hk hx
    obtain ⟨k, rfl⟩ : ∃ m, k = m + 1 := ⟨k - 1, by omega⟩
    rw [sum_Put.l0, if_neg (by simp at h1; omega), if_pos (by omega), enc_small (by simpa using h1)]
    simp at h1
    rw [show (n : Int) % 256 = n by omega]
  | succ d ih =>
    intro k xs n h1 hk hx
    obtain ⟨k, rfl⟩ : ∃ m, k = m + 1 := ⟨k - 1, by omega⟩
    rw [sum_Put.l0]
    by_cases c : n < 128
    · rw [if_neg (by omega), if_pos (by omega), enc_small c, show (n : Int) % 256 = n by omega]
    · rw [if_pos (by omega), if_pos (by omega), or128 _ (by omega), show (n : Int) / 128 = ((n / 128 : Nat) : Int) by omega,
        ih k _ (n / 128) (by rw [Nat.pow_succ] at h1; omega) (by omega) (by simp; omega), enc_big c]
      simp
theorem put_f (k : Nat) (xs : List Int) (n : Nat) (hn : n < 9223372036854775808) (hk : 9 ≤ k) (hx : xs.length + 9 ≤ 140737488355328) : sum_Put.f k xs (n : Int) = some (xs ++ enc n) := by
  unfold sum_Put.f
  rw [u64_63 _ (by omega) (by omega), show (n : Int) % 9223372036854775808 = (n : Int) by omega]
  exact put_val 8 k xs n (by have : (128 : Nat) ^ (8 + 1) = 9223372036854775808 := by decide
                             omega) hk hx
end Go.Proofs.Ytochnokfcfmgnaa.Rd
end
