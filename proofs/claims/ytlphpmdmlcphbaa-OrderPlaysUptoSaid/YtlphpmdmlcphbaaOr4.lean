/- Seat E: order.of: the net of a list. -/
import Derived.Test.YtlphpmdmlcphbaaOr3
import Derived.Deep.RegionHeld3
namespace Go.Proofs.Ytlphpmdmlcphbaa.Or
open Go.RowKit Go.Proofs.Ytlphpmdmlcphbaa.Mem Go.Proofs.YtlphpmdmlcphbaaW.PrintWords Go.Maps Go.Proofs.Ytlphpmdmlcphbaa.Om
set_option linter.unusedVariables false
set_option linter.unusedSimpArgs false
set_option maxRecDepth 100000
set_option maxHeartbeats 4000000
/-- What a name uses: the last that is said of it. -/
def usesOf (l : List Vo) (x : ByteArray) : Option (List ByteArray) := l.foldl (fun a v => if x = v.1 then some v.2 else a) none
/-- The names that are there, and what they use, as a map; the lists lie in w. -/
def UM (w : World) (l : List Vo) (m : ByteArray → Option Value) : Prop :=
  ∀ x, match usesOf l x with
    | none => m x = none
    | some us => ∃ Au cu, m x = some (.slice Au us.length cu) ∧ Kd.string.C w Au us.length us ∧ us.length ≤ cu ∧ Flat Au cu
theorem UM.nil (w : World) : UM w [] (fun _ => none) := fun x => rfl
theorem UM.snoc {w : World} {l : List Vo} {m : ByteArray → Option Value} (h : UM w l m) (v : Vo) (Au : Option Addr) (cu : Nat) (hC : Kd.string.C w Au v.2.length v.2) (hc : v.2.length ≤ cu) (hfl : Flat Au cu) :
    UM w (l ++ [v]) (fun x => if x = v.1 then some (.slice Au v.2.length cu) else m x) := by
  intro x
  have e : usesOf (l ++ [v]) x = if x = v.1 then some v.2 else usesOf l x := by unfold usesOf; rw [List.foldl_append]; rfl
  rw [e]
  by_cases hx : x = v.1
  · rw [if_pos hx]
    exact ⟨Au, cu, if_pos hx, hC, hc, hfl⟩
  · rw [if_neg hx]
    have h1 := h x
    cases hu : usesOf l x with
    | none => rw [hu] at h1; simp only [] at h1 ⊢; rw [if_neg hx]; exact h1
    | some us =>
      rw [hu] at h1
      obtain ⟨A, c, e1, e2, e3⟩ := h1
      exact ⟨A, c, by simp only []; rw [if_neg hx]; exact e1, e2, e3⟩
theorem u68 : Try.prog.underlying 68 = some (.map 9 23) := by kernel_rfl
theorem of_c (A : Option Addr) (c : Nat) (l : List Vo) (Ah : Option Addr) (ch : Nat) (hv : List ByteArray) (w : World) (hC : VC w A l) (hc : l.length ≤ c) (hF : Fine l) (hH : Kd.string.C w Ah hv.length hv) (hhc : hv.length ≤ ch) (hHF : (∀ u ∈ hv, u.size ≤ maxLen) ∧ hv.length ≤ 4194304) :
    Calls Try.prog 18 #[.slice A l.length c, .slice Ah hv.length ch] w fun e w' => ∃ g mu mh m, e = .returned (.pointer (some ⟨g, 0, none⟩)) ∧ Blk w' g 71 [.map (some mu), .map (some mh)] ∧ Mp w' mu l.length m ∧ UM w l m ∧ Mp w' mh hv.length (mset hv.reverse) ∧ w.heap.size ≤ mu ∧ w.heap.size ≤ mh ∧ w.heap.size ≤ g ∧ mu ≠ mh ∧ Below w.heap.size w w' := by
  have hmm := @run_makeMap Try.prog
  have HC := Lib.hid hC
  have HF := Lib.hid hF
  have HH := Lib.hid hH
  have HHF := Lib.hid hHF
  have hll : (l.length : Int) ≤ 4194304 := by have := hF.2.2; omega
  have hhl : (hv.length : Int) ≤ 4194304 := by have := hHF.2; omega
  clear hC hF hH hHF
  go_enter Try.func18, Try.ntmps18
  go_wp2_with fail
  have MU0 := Lib.hid (((Mp.made w).alloc (.map #[] 0)).alloc (.cells #[.map (some w.heap.size), .map (some (w.heap.size + 1))] 71))
  have MH0 : Hid (Mp (((w.alloc (.map #[] 0)).alloc (.map #[] 0)).alloc (.cells #[.map (some w.heap.size), .map (some (w.heap.size + 1))] 71)) (w.heap.size + 1) 0 (mset [])) := Lib.hid (by
    have h := (Mp.made (w.alloc (.map #[] 0))).alloc (.cells #[.map (some w.heap.size), .map (some (w.heap.size + 1))] 71)
    rw [mset_nil]
    simpa using h)
  have G0 : Hid (Blk (((w.alloc (.map #[] 0)).alloc (.map #[] 0)).alloc (.cells #[.map (some w.heap.size), .map (some (w.heap.size + 1))] 71)) (w.heap.size + 1 + 1) 71 [.map (some w.heap.size), .map (some (w.heap.size + 1))]) := Lib.hid (by
    have h := Blk.new ((w.alloc (.map #[] 0)).alloc (.map #[] 0)) 71 [.map (some w.heap.size), .map (some (w.heap.size + 1))]
    simpa using h)
  have B0 : Hid (Below w.heap.size w (((w.alloc (.map #[] 0)).alloc (.map #[] 0)).alloc (.cells #[.map (some w.heap.size), .map (some (w.heap.size + 1))] 71))) := Lib.hid (((((Only.refl w (fun _ => False)).alloc _).alloc _).alloc _).below_all)
  generalize ((w.alloc (.map #[] 0)).alloc (.map #[] 0)).alloc (.cells #[.map (some w.heap.size), .map (some (w.heap.size + 1))] 71) = w1 at *
  generalize hg : w.heap.size + 1 + 1 = g at *
  generalize hmh : w.heap.size + 1 = mh at *
  have Hmh : Hid (w.heap.size < mh ∧ w.heap.size < g) := Lib.hid (by omega)
  clear hg hmh hmm
  go_loopg [16] l.length (fun m iv wr => ∃ (k : Nat) (mp : ByteArray → Option Value), iv = .int .i64 k ∧ Aside1 (k + m = l.length ∧ UM w (l.take k) mp) ∧ Aside1 (Mp wr w.heap.size k mp) ∧ Aside1 (Mp wr mh 0 (mset [])) ∧ Aside1 (Blk wr g 71 [.map (some w.heap.size), .map (some mh)]) ∧ Aside1 (Below w.heap.size w wr))
  case atStart => exact ⟨0, fun _ => none, rfl, ⟨by omega, by simpa using UM.nil w⟩, ⟨MU0.out⟩, ⟨MH0.out⟩, ⟨G0.out⟩, ⟨B0.out⟩⟩
  case round =>
    obtain ⟨k, mp, rfl, ⟨hkm, hum⟩, ⟨hmu⟩, ⟨hmh⟩, ⟨hgg⟩, ⟨hbb⟩⟩ := hrel
    have KM := Lib.hid hkm
    have U := Lib.hid hum
    have MU := Lib.hid hmu
    have MH := Lib.hid hmh
    have G := Lib.hid hgg
    have B := Lib.hid hbb
    have hkl : (k : Int) ≤ 4194304 := by omega
    have hwk : Hid (wrap64 ((k : Int) + 1) = ((k + 1 : Nat) : Int)) := Lib.hid (by unfold wrap64; omega)
    clear hkm hum hmu hmh hgg hbb MU0 MH0 G0 B0
    by_cases hk : k < l.length
    · have hki : (k : Int) < (l.length : Int) := by omega
      obtain ⟨ad, Au, cu, rfl, e1, e2, hCu, hcu, hfl⟩ := HC.out k hk
      obtain ⟨name, us, hlk⟩ : ∃ name us, l[k] = (name, us) := ⟨_, _, rfl⟩
      have hmem : (name, us) ∈ l := hlk ▸ List.getElem_mem hk
      have hns : name.size ≤ maxLen := (HF.out.1 _ hmem).1
      rw [hlk] at e1 e2 hCu hcu
      dsimp only at e1 e2 hCu hcu
      have h1 := (B.out.cell (World.block_lt_of_cell? _ _ e1)).trans e1
      have h2 := (B.out.cell (p := ⟨(ad.add (k * 2)).block, (ad.add (k * 2)).off + 1, none⟩) (World.block_lt_of_cell? _ _ e2)).trans e2
      have HU2 : Hid (UM w (l.take (k + 1)) (fun x => if x = name then some (.slice Au us.length cu) else mp x)) := Lib.hid (by
        rw [List.take_succ_eq_append_getElem hk, hlk]
        exact UM.snoc U.out (name, us) Au cu hCu hcu hfl)
      clear e1 e2 hCu hcu
      go_wp2_with fail
      have MA := Lib.hid ((MU.out.alloc (.cells #[.string name, .slice Au us.length cu] 41)).drew)
      have HA := Lib.hid ((MH.out.alloc (.cells #[.string name, .slice Au us.length cu] 41)).drew)
      have GA := Lib.hid ((G.out.alloc (.cells #[.string name, .slice Au us.length cu] 41)).drew)
      have SA := Lib.hid ((Blk.new wr 41 [.string name, .slice Au us.length cu]).drew)
      have BA : Hid (Below w.heap.size w (wr.alloc (.cells #[.string name, .slice Au us.length cu] 41)).drew) := Lib.hid (((Only.of_below B.out (fun _ => False)).alloc _).drew.below (B := w.heap.size) (Nat.le_refl _) (fun _ _ h => h))
      generalize (wr.alloc (.cells #[.string name, .slice Au us.length cu] 41)) = wa at *
      have hgm : Hid (mh ≠ w.heap.size) := Lib.hid (by have := Hmh.out; omega)
      clear h1 h2 MU MH G
      generalize wr.heap.size = sc at *
      have hn5 : k < maxLen := by unfold maxLen; omega
      obtain ⟨w3, hrun3, hm3, ho3⟩ := MA.out.update u68 hn5 name hns (.slice Au us.length cu)
      have M3 := Lib.hid hm3
      have H3 := Lib.hid (HA.out.step ho3 hgm.out)
      have G3 := Lib.hid (GA.out.keep ho3 (Mp.ne MA.out GA.out))
      have S3 := Lib.hid (SA.out.keep ho3 (Mp.ne MA.out SA.out))
      have B3 := Lib.hid (((Only.of_below BA.out (fun k => k = w.heap.size)).step ho3 (fun _ _ h => h)).below (B := w.heap.size) (Nat.le_refl _) (fun q hq h => by omega))
      clear hm3 ho3
      have CS : Hid (∀ W, Blk W g 71 [.map (some w.heap.size), .map (some mh)] → Blk W sc 41 [.string name, .slice Au us.length cu] → (W.cell? ⟨g, 0, none⟩ = some (.map (some w.heap.size)) ∧ W.cell? ⟨sc, 0, none⟩ = some (.string name) ∧ W.cell? ⟨sc, 1, none⟩ = some (.slice Au us.length cu))) := Lib.hid fun W h h' => ⟨h.cell_at 0 _ rfl, h'.cell_at 0 _ rfl, h'.cell_at 1 _ rfl⟩
      go_region_held3 (fun w' => w'.cell? ⟨g, 0, none⟩ = some (.map (some w.heap.size)) ∧ w'.cell? ⟨sc, 0, none⟩ = some (.string name) ∧ w'.cell? ⟨sc, 1, none⟩ = some (.slice Au us.length cu)) (first | exact CS.out _ GA.out SA.out | exact CS.out _ G3.out S3.out) (fail)
      all_goals
        clear hrun3 CS
        go_wp2_with fail
        go_roundg (gk - 1)
        case measure => have := KM.out; omega
        case rel => exact ⟨k + 1, _, (by first | exact congrArg (Value.int .i64) hwk.out | exact congrArg (Value.int .i64) (by omega)), ⟨by have := KM.out; omega, HU2.out⟩, ⟨M3.out⟩, ⟨H3.out⟩, ⟨G3.out⟩, ⟨B3.out⟩⟩
    · obtain rfl : k = l.length := by
        have := KM.out
        omega
      have HU : Hid (UM w l mp) := Lib.hid (by have h := U.out; rwa [List.take_length] at h)
      clear U
      go_wp2_with fail
      obtain ⟨w4, hw4⟩ : ∃ w4, w4 = wr := ⟨_, rfl⟩
      subst hw4
      clear hwk KM hkl
      go_loopg [31] hv.length (fun m iv wz => ∃ j : Nat, iv = .int .i64 j ∧ Aside1 (j + m = hv.length) ∧ Aside1 (Mp wz w.heap.size l.length mp) ∧ Aside1 (Mp wz mh j (mset (hv.take j).reverse)) ∧ Aside1 (Blk wz g 71 [.map (some w.heap.size), .map (some mh)]) ∧ Aside1 (Below w.heap.size w wz))
      case atStart => exact ⟨0, rfl, ⟨by omega⟩, ⟨MU.out⟩, ⟨MH.out⟩, ⟨G.out⟩, ⟨B.out⟩⟩
      case round =>
        obtain ⟨j, rfl, ⟨hjm⟩, ⟨hmu⟩, ⟨hmh⟩, ⟨hgg⟩, ⟨hbb⟩⟩ := hrel
        have JM := Lib.hid hjm
        have MU5 := Lib.hid hmu
        have MH5 := Lib.hid hmh
        have G5 := Lib.hid hgg
        have B5 := Lib.hid hbb
        have hwj : Hid (wrap64 ((j : Int) + 1) = ((j + 1 : Nat) : Int)) := Lib.hid (by unfold wrap64; omega)
        have hn6 : j < maxLen := by unfold maxLen; omega
        clear hjm hmu hmh hgg hbb MU MH G
        by_cases hj : j < hv.length
        · have hji : (j : Int) < (hv.length : Int) := by omega
          obtain ⟨adu, rfl, eu⟩ := name_at HH.out rfl j hj
          obtain ⟨u, hu⟩ : ∃ u, hv[j] = u := ⟨_, rfl⟩
          have hus : u.size ≤ maxLen := HHF.out.1 u (hu ▸ List.getElem_mem hj)
          rw [hu] at eu
          have x1 := (B5.out.cell (World.block_lt_of_cell? _ _ eu)).trans eu
          have g1 := G5.out.cell_at 1 _ rfl
          have hgm : Hid (w.heap.size ≠ mh) := Lib.hid (by have := Hmh.out; omega)
          obtain ⟨w7, hrun7, hm7, ho7⟩ := MH5.out.update u69 hn6 u hus (.bool true)
          rw [mset_cons] at hm7
          have hrev : u :: (hv.take j).reverse = (hv.take (j + 1)).reverse := by rw [List.take_succ_eq_append_getElem hj, List.reverse_append, hu]; rfl
          rw [hrev] at hm7
          have M7 := Lib.hid hm7
          have U7 := Lib.hid (MU5.out.step ho7 hgm.out)
          have G7 := Lib.hid (G5.out.keep ho7 (Mp.ne MH5.out G5.out))
          have B7 := Lib.hid (((Only.of_below B5.out (fun k => k = mh)).step ho7 (fun _ _ h => h)).below (B := w.heap.size) (Nat.le_refl _) (fun q hq h => by have := Hmh.out; omega))
          clear hm7 ho7 eu hrev
          go_wp2_with fail
          go_roundg (gk - 1)
          case measure => have := JM.out; omega
          case rel => exact ⟨j + 1, (by first | exact congrArg (Value.int .i64) hwj.out | exact congrArg (Value.int .i64) (by omega)), ⟨by have := JM.out; omega⟩, ⟨U7.out⟩, ⟨M7.out⟩, ⟨G7.out⟩, ⟨B7.out⟩⟩
        · obtain rfl : j = hv.length := by
            have := JM.out
            omega
          go_wp2
          go_ret
          exact ⟨g, w.heap.size, mh, mp, rfl, G5.out, MU5.out, HU.out, by have h := MH5.out; rwa [List.take_length] at h, Nat.le_refl _, by have := Hmh.out; omega, by have := Hmh.out; omega, by have := Hmh.out; omega, B5.out⟩
end Go.Proofs.Ytlphpmdmlcphbaa.Or
