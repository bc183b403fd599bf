/- Seat E: OrderPlays: lists of names made one by one, beside a list of all their names; the reference's Levels, walked; OrderPlays, walked. -/
import Derived.Test.YtlphpmdmlcphbaaOr55
import Derived.Test.YtlphpmdmlcphbaaOr43
namespace Go.Proofs.Ytlphpmdmlcphbaa.Or
open Go Go.RowKit Go.Proofs.Ytlphpmdmlcphbaa.Mem Go.Proofs.YtlphpmdmlcphbaaW.PrintWords Go.Maps Go.Proofs.Ytlphpmdmlcphbaa.Om
set_option linter.unusedVariables false
set_option linter.unusedSimpArgs false
set_option maxRecDepth 100000
set_option maxHeartbeats 2000000
section
variable {w w' : World} {base : Nat} {ov ov' : Value} {us : List SL} {outs : List (List ByteArray)}
/-- One more list. -/
theorem LV.snoc (h : LV w base ov us outs) (p : SL) (ys : List ByteArray) (hp : OwnS w base (sv p) ys) (hpo : ∀ b, (sv p).ownBlock = some b → ov.ownBlock ≠ some b) (hpu : ∀ j (hj : j < us.length) b, (sv p).ownBlock = some b → (sv us[j]).ownBlock ≠ some b)
    (hg : w.grownBy w' ov.ownBlock) (hr : w'.ownsRow base 23 1 ov' (us.length + 1) ((us ++ [p]).map sv)) (hat : ov'.ownBlock = ov.ownBlock ∨ ∃ b, ov'.ownBlock = some b ∧ w.heap.size ≤ b) :
    LV w' base ov' (us ++ [p]) (outs ++ [ys]) := by
  have hnew : ∀ j (hj : j < us.length), (sv us[j]).ownBlock = none ∨ (sv us[j]).ownBlock ≠ ov.ownBlock := fun j hj => by
    cases hb : (sv us[j]).ownBlock with
    | none => exact .inl rfl
    | some b => exact .inr fun e => h.sep j hj b hb e.symm
  have hpn : (sv p).ownBlock = none ∨ (sv p).ownBlock ≠ ov.ownBlock := by
    cases hb : (sv p).ownBlock with
    | none => exact .inl rfl
    | some b => exact .inr fun e => hpo b hb e.symm
  have hlen := h.len
  refine ⟨by rw [List.length_append]; exact hr, by simp [h.len], fun j hj hk => ?_, fun j hj b hb => ?_, fun i j hi hj hne b hb => ?_⟩
  · by_cases hjl : j < us.length
    · have hjo : j < outs.length := by omega
      rw [List.getElem_append_left hjl, List.getElem_append_left hjo]
      exact World.ownsRow.kept (h.at_ j hjl hjo) hg (hnew j hjl)
    · have : j = us.length := by simp at hj; omega
      subst this
      have h1 : (us ++ [p])[us.length] = p := by simp
      have h2 : (outs ++ [ys])[us.length] = ys := by simp [hlen]
      rw [h1, h2]
      exact World.ownsRow.kept hp hg hpn
  · by_cases hjl : j < us.length
    · rw [List.getElem_append_left hjl] at hb
      rcases hat with e | ⟨b', e, hge⟩
      · rw [e]; exact h.sep j hjl b hb
      · rw [e]
        intro e2
        injection e2 with e2
        have := (World.ownsRow.lt (h.at_ j hjl (by omega)) b hb).2
        omega
    · have : j = us.length := by simp at hj; omega
      subst this
      rw [show (us ++ [p])[us.length] = p by simp] at hb
      rcases hat with e | ⟨b', e, hge⟩
      · rw [e]; exact hpo b hb
      · rw [e]
        intro e2
        injection e2 with e2
        have := (World.ownsRow.lt hp b hb).2
        omega
  · by_cases hil : i < us.length
    · rw [List.getElem_append_left hil] at hb
      by_cases hjl : j < us.length
      · rw [List.getElem_append_left hjl]
        exact h.dis i j hil hjl hne b hb
      · have : j = us.length := by simp at hj; omega
        subst this
        rw [show (us ++ [p])[us.length] = p by simp]
        exact fun e => hpu i hil b e hb
    · have : i = us.length := by simp at hi; omega
      subst this
      rw [show (us ++ [p])[us.length] = p by simp] at hb
      by_cases hjl : j < us.length
      · rw [List.getElem_append_left hjl]
        exact hpu j hjl b hb
      · exact absurd (by simp at hj; omega) hne
/-- Lists of names, and beside them a list of names. -/
structure LD (w : World) (base : Nat) (ov : Value) (us : List SL) (outs : List (List ByteArray)) (dv : Value) (done : List ByteArray) : Prop where
  lv : LV w base ov us outs
  d : OwnS w base dv done
  dis : ∀ b, dv.ownBlock = some b → ov.ownBlock ≠ some b ∧ ∀ j (hj : j < us.length), (sv us[j]).ownBlock ≠ some b
variable {dv dv' : Value} {done : List ByteArray}
theorem LD.below (h : LD w base ov us outs dv done) (hb : Below w.heap.size w w') : LD w' base ov us outs dv done := ⟨h.lv.below hb, OwnS.below h.d hb, h.dis⟩
/-- A block that is older than w. -/
theorem LV.old (h : LV w base ov us outs) : (∀ b, ov.ownBlock = some b → b < w.heap.size) ∧ ∀ j (hj : j < us.length) b, (sv us[j]).ownBlock = some b → b < w.heap.size :=
  ⟨fun b hb => (World.ownsRow.lt h.row b hb).2, fun j hj b hb => (World.ownsRow.lt (h.at_ j hj (by have := h.len; omega)) b hb).2⟩
/-- A round: a level is made (behind w0), then put to done, then put to out. -/
theorem LD.done_ {w0 w1 w2 : World} {lv : Value} {ys : List ByteArray} (h : LD w0 base ov us outs dv done) (hb : Below w0.heap.size w0 w1) (hl : OwnS w1 w0.heap.size lv ys) (hg : w1.grownBy w2 dv.ownBlock) (ho : OwnS w2 base dv' (done ++ ys)) (hat : dv'.ownBlock = dv.ownBlock ∨ ∃ b, dv'.ownBlock = some b ∧ w1.heap.size ≤ b) :
    LD w2 base ov us outs dv' (done ++ ys) ∧ OwnS w2 w0.heap.size lv ys ∧ (∀ b, lv.ownBlock = some b → dv'.ownBlock ≠ some b ∧ ov.ownBlock ≠ some b ∧ ∀ j (hj : j < us.length), (sv us[j]).ownBlock ≠ some b) := by
  have hk1 : ov.ownBlock = none ∨ ov.ownBlock ≠ dv.ownBlock := by
    cases hbk : ov.ownBlock with
    | none => exact .inl rfl
    | some b => exact .inr fun e => (h.dis b e.symm).1 hbk
  have hk2 : ∀ j (hj : j < us.length), (sv us[j]).ownBlock = none ∨ (sv us[j]).ownBlock ≠ dv.ownBlock := fun j hj => by
    cases hbk : (sv us[j]).ownBlock with
    | none => exact .inl rfl
    | some b => exact .inr fun e => (h.dis b e.symm).2 j hj hbk
  have hk3 : lv.ownBlock = none ∨ lv.ownBlock ≠ dv.ownBlock := by
    cases hbk : lv.ownBlock with
    | none => exact .inl rfl
    | some b =>
      refine .inr fun e => ?_
      have h1 := (World.ownsRow.lt hl b hbk).1
      have h2 := (World.ownsRow.lt h.d b e.symm).2
      omega
  have hL := (h.lv.below hb).keep dv.ownBlock hg hk1 hk2
  refine ⟨⟨hL, ho, fun b hbk => ?_⟩, World.ownsRow.kept hl hg hk3, fun b hbk => ?_⟩
  · rcases hat with e | ⟨b', e, hge⟩
    · rw [e] at hbk; exact h.dis b hbk
    · rw [e] at hbk
      injection hbk with hbk
      have hs := hb.size
      exact ⟨fun e2 => by have := h.lv.old.1 b e2; omega, fun j hj e2 => by have := h.lv.old.2 j hj b e2; omega⟩
  · have h1 := (World.ownsRow.lt hl b hbk).1
    have h2 := (World.ownsRow.lt hl b hbk).2
    refine ⟨fun e2 => ?_, fun e2 => by have := h.lv.old.1 b e2; omega, fun j hj e2 => by have := h.lv.old.2 j hj b e2; omega⟩
    rcases hat with e | ⟨b', e, hge⟩
    · rw [e] at e2
      have := (World.ownsRow.lt h.d b e2).2
      omega
    · rw [e] at e2
      injection e2 with e2
      omega
theorem LD.out_ {w2 w3 : World} {p : SL} {ys : List ByteArray} {n : Nat} (hn : base ≤ n) (h : LD w2 base ov us outs dv done) (hp : OwnS w2 n (sv p) ys) (hpd : ∀ b, (sv p).ownBlock = some b → dv.ownBlock ≠ some b ∧ ov.ownBlock ≠ some b ∧ ∀ j (hj : j < us.length), (sv us[j]).ownBlock ≠ some b)
    (hg : w2.grownBy w3 ov.ownBlock) (hr : w3.ownsRow base 23 1 ov' (us.length + 1) ((us ++ [p]).map sv)) (hat : ov'.ownBlock = ov.ownBlock ∨ ∃ b, ov'.ownBlock = some b ∧ w2.heap.size ≤ b) : LD w3 base ov' (us ++ [p]) (outs ++ [ys]) dv done := by
  have hk : dv.ownBlock = none ∨ dv.ownBlock ≠ ov.ownBlock := by
    cases hbk : dv.ownBlock with
    | none => exact .inl rfl
    | some b => exact .inr fun e => (h.dis b hbk).1 e.symm
  refine ⟨h.lv.snoc p ys (own_weaken hp hn) (fun b hb => (hpd b hb).2.1) (fun j hj b hb => (hpd b hb).2.2 j hj) hg hr hat, World.ownsRow.kept h.d hg hk, fun b hb => ⟨?_, fun j hj => ?_⟩⟩
  · rcases hat with e | ⟨b', e, hge⟩
    · rw [e]; exact (h.dis b hb).1
    · rw [e]
      intro e2
      injection e2 with e2
      have := (World.ownsRow.lt h.d b hb).2
      omega
  · by_cases hjl : j < us.length
    · rw [List.getElem_append_left hjl]; exact (h.dis b hb).2 j hjl
    · have : j = us.length := by simp at hj; omega
      subst this
      rw [show (us ++ [p])[us.length] = p by simp]
      exact fun e2 => (hpd b e2).1 hb
end
/-- What Sort's answer says to Levels. -/
theorem res_lev {l : List Vo} {o : List ByteArray} {x : ByteArray} {e : Int} (hF : Fine l) (hR : Res l (l.map (·.1)) [] (o, x, e)) (he : e = 0) : bads l = [] ∧ LS l o ∧ (∀ y ∈ o, usesOf l y ≠ none) ∧ o.length ≤ 4194304 := by
  rcases hR.shape with ⟨_, _, h⟩ | ⟨_, h⟩
  · exact ⟨h.dist, LS.of (fun i hi => (h.ord.new i hi).1) (fun i hi u hu => (h.ord.use i hi u hu).resolve_right (by simp)), h.known, by have := h.len; have := hF.2.2; omega⟩
  · omega
theorem fold_snoc (l : List Vo) (o done : List ByteArray) (i : Nat) (hi : i < o.length) : ((o.take (i + 1)).filter (mayB l [] done)).foldl insS [] = if mayB l [] done o[i] = true then insS (((o.take i).filter (mayB l [] done)).foldl insS []) o[i] else ((o.take i).filter (mayB l [] done)).foldl insS [] := by
  rw [filter_snoc _ _ _ hi]
  split
  · rw [List.foldl_append]; rfl
  · rw [List.append_nil]
theorem fold_len (xs : List ByteArray) : (xs.foldl insS []).length = xs.length := by
  have := (ins_fold xs [] List.Pairwise.nil).2.length_eq
  simpa using this
theorem refLevels_c (A : Option Addr) (c : Nat) (l : List Vo) (w : World) (hC : kV.C w A l.length l) (hc : l.length ≤ c) (hF : Fine l) (o : List ByteArray) (x : ByteArray) (e : Int) (hR : Res l (l.map (·.1)) [] (o, x, e)) :
    Calls Try.prog 15 #[.slice A l.length c] w fun en w' => ∃ ov, en = .returned (.tuple #[ov, .int .i64 e]) ∧ (∃ us, LV w' w.heap.size ov us (if e = 0 then (levs l o).2.map msort else [])) ∧ Below w.heap.size w w' := by
  have HCL := Lib.hid hC
  have HF := Lib.hid hF
  have HC := Lib.hid hc
  have HR := Lib.hid hR
  have HLS := Lib.hid (res_lev hF hR)
  have hll : (l.length : Int) ≤ 4194304 := by have := hF.2.2; omega
  clear hC hc hF hR
  go_enter Try.func15, Try.ntmps15
  go_wp2_with fail
  go_loopg [4, 5] l.length (fun mm bv iv wr => ∃ (k : Nat) (Bk : List ByteArray) (Ab : Option Addr) (cb : Nat), iv = .int .i64 k ∧ bv = .slice Ab Bk.length cb ∧ Aside1 (k + mm = l.length ∧ (l.take k).map (·.1) = Bk) ∧ Aside1 (OwnS wr w.heap.size (.slice Ab Bk.length cb) Bk) ∧ Aside1 (Below w.heap.size w wr))
  case atStart => exact ⟨0, [], none, 0, rfl, rfl, ⟨by omega, rfl⟩, ⟨World.ownsRow_nil _ _ _ _⟩, ⟨Below.refl _ _⟩⟩
  case round =>
    obtain ⟨k, Bk, Ab, cb, rfl, rfl, ⟨hkm, hBk⟩, ⟨hO⟩, ⟨hB⟩⟩ := hrel
    have KM := Lib.hid hkm
    have BK := Lib.hid hBk
    have O := Lib.hid hO
    have B := Lib.hid hB
    have hkl : (k : Int) ≤ 4194304 := by omega
    have hbl : Bk.length ≤ 4194304 := by rw [← hBk]; simp; omega
    clear hkm hBk hO hB
    by_cases hk : k < l.length
    · have hki : (k : Int) < (l.length : Int) := by omega
      obtain ⟨ad, Au, cu, hA, e1, e2, hCu, hcu⟩ := vocab_at HCL.out rfl k hk
      subst hA
      obtain ⟨name, us, hlk⟩ : ∃ name us, l[k] = (name, us) := ⟨_, _, rfl⟩
      rw [hlk] at e1
      dsimp only at e1
      have h1 := (B.out.cell (World.block_lt_of_cell? _ _ e1)).trans e1
      have HLK := Lib.hid hlk
      clear e1 e2 hCu hcu hlk
      go_wp2_with (first
        | ((with_reducible refine gate_builtin (b := .append) (xs := #[.tmp 19, .tmp 25]) rfl ?_); at_builtin; go_loud (refine Kd.R_append Kd.string (w0 := wr) (W := wr) w.heap.size rfl (.tmp 19) (.tmp 25) 23 9 (.string ByteArray.empty) 16 rfl (by kernel_rfl) info9m rfl (by decide) (by decide) (.slice Ab Bk.length cb) Bk name [.string name] (fun _ => True) (fun _ => False) rfl rfl rfl (fun _ h => h.elim) (fun _ _ => trivial) (Kd.R_of_own O.out (fun _ _ => trivial)) (Below.refl _ _) B.out.size (by omega) ?_); intro v4 w4 r4 b4 g4 at4
           obtain ⟨A4, c4, rfl⟩ := Kd.R_slice r4
           have O4 := Lib.hid (show OwnS w4 w.heap.size (.slice A4 (Bk ++ [name]).length c4) (Bk ++ [name]) from Kd.own_of_R r4)
           have B4 := Lib.hid (B.out.trans b4)
           clear r4 b4 g4 at4)
        | fail)
      go_roundg (gk - 1)
      case measure => have := KM.out; omega
      case rel => exact ⟨k + 1, Bk ++ [name], A4, c4, (by simp), (by simp), ⟨by have := KM.out; omega, by rw [List.take_succ_eq_append_getElem hk, List.map_append, BK.out, HLK.out]; rfl⟩, ⟨O4.out⟩, ⟨B4.out⟩⟩
    · have hki : ¬ (k : Int) < (l.length : Int) := by omega
      have hbe : Bk = l.map (·.1) := by rw [← BK.out, List.take_of_length_le (by omega)]
      have HBE := Lib.hid hbe
      have so : Calls Try.prog 13 #[.slice A l.length c, .slice Ab Bk.length cb, .slice none 0 0] wr fun e w' => ∃ v r, e = .returned (.tuple #[v, .string r.2.1, .int .i64 r.2.2]) ∧ OwnS w' wr.heap.size v r.1 ∧ Res l Bk [] r ∧ Below wr.heap.size wr w' := refSort_c A c l Ab cb Bk none 0 [] wr (Kd.C_below HCL.out B.out) HC.out HF.out (OwnS.reads O.out).1 hbl (Kd.C_nil Kd.string wr) (by simp)
      have SO := Lib.hid so
      clear hbe so
      by_cases he : e = 0
      · obtain ⟨h1, h2, h3, h4⟩ := HLS.out he
        have HBD := Lib.hid h1
        have HLS2 := Lib.hid h2
        have HKN := Lib.hid h3
        have hoi : (o.length : Int) ≤ 4194304 := by omega
        have HE := Lib.hid he
        subst he
        clear h1 h2 h3 HLS
        go_wp2_with (first
          | (go_at_call 13; with_reducible refine SO.out.mono ?_; rintro en w2 ⟨v2, r2, hen, o2, hr2, b2⟩; rw [HBE.out] at hr2; obtain rfl := HR.out.unique hr2; subst hen; dsimp only at o2 ⊢; obtain ⟨A2, c2, rfl⟩ := OwnS.slice o2; have O2 := Lib.hid o2; have B2 := Lib.hid (B.out.trans (b2.mono B.out.size)); clear o2 b2 hr2)
          | fail)
        clear SO HR HE O
        obtain ⟨L, hL⟩ : ∃ L, L = (levs l o).2.length := ⟨_, rfl⟩
        have HL := Lib.hid hL
        have hLo : L ≤ 4194304 := by have h := (levs_len l o.length o rfl).1; omega
        have CO := Lib.hid (OwnS.reads O2.out).1
        clear hL O2
        go_loopg [9, 10] L (fun mm ov dv wr => ∃ (k : Nat) (us : List SL) (Ao : Option Addr) (co : Nat) (done : List ByteArray) (Ad : Option Addr) (cd : Nat), ov = .slice Ao us.length co ∧ dv = .slice Ad done.length cd ∧ Aside1 (k + mm = L ∧ DN l o k done) ∧ Aside1 (LD wr w2.heap.size (.slice Ao us.length co) us (((levs l o).2.map msort).take k) (.slice Ad done.length cd) done) ∧ Aside1 (Below w2.heap.size w2 wr))
        case atStart => exact ⟨0, [], none, 0, [], none, 0, rfl, rfl, ⟨by omega, DN.nil l o⟩, ⟨⟨LV.nil _ _, World.ownsRow_nil _ _ _ _, fun b h => by cases h⟩⟩, ⟨Below.refl _ _⟩⟩
        case round =>
          obtain ⟨k, us, Ao, co, done, Ad, cd, rfl, rfl, ⟨hkm, hdn⟩, ⟨hLD⟩, ⟨hB⟩⟩ := hrel
          have KM2 := Lib.hid hkm
          have HDN := Lib.hid hdn
          have LDH := Lib.hid hLD
          have B3 := Lib.hid hB
          have B4 := Lib.hid (B2.out.trans (hB.mono B2.out.size))
          have husl : us.length ≤ 4194304 := by have h := hLD.lv.len; rw [List.length_take, List.length_map] at h; have := HL.out; omega
          have hdl : done.length ≤ o.length := nodup_sub_len hdn.nd (fun y hy => ((hdn.mem y).1 hy).1)
          have hdi : (done.length : Int) ≤ 4194304 := by omega
          clear hkm hdn hLD hB
          by_cases hkL : k < L
          · have hlt : done.length < o.length := DN.more HLS2.out HDN.out (by rw [← HL.out]; exact hkL)
            have hlti : (done.length : Int) < (o.length : Int) := by omega
            have CD := Lib.hid (OwnS.reads LDH.out.d).1
            go_wp2_with fail
            obtain ⟨go, hgo⟩ : ∃ go, go = gk := ⟨_, rfl⟩
            subst hgo
            obtain ⟨wq, hwq⟩ : ∃ wq, wq = wr := ⟨_, rfl⟩
            subst hwq
            go_loopg [11, 12] o.length (fun mm lv iv wr => ∃ (i : Nat) (Lk : List ByteArray) (Al : Option Addr) (cl : Nat), iv = .int .i64 i ∧ lv = .slice Al Lk.length cl ∧ Aside1 (i + mm = o.length ∧ Lk = ((o.take i).filter (mayB l [] done)).foldl insS []) ∧ Aside1 (OwnS wr wq.heap.size (.slice Al Lk.length cl) Lk) ∧ Aside1 (Below wq.heap.size wq wr))
            case atStart => exact ⟨0, [], none, 0, rfl, rfl, ⟨by omega, by simp⟩, ⟨World.ownsRow_nil _ _ _ _⟩, ⟨Below.refl _ _⟩⟩
            case round =>
              obtain ⟨i, Lk, Al, cl, rfl, rfl, ⟨hi, hLk⟩, ⟨hO⟩, ⟨hB⟩⟩ := hrel
              have HI := Lib.hid hi
              have HLK := Lib.hid hLk
              have OL := Lib.hid hO
              have BZ := Lib.hid hB
              have BZ2 := Lib.hid (B3.out.trans (hB.mono B3.out.size))
              have BZ4 := Lib.hid (B4.out.trans (hB.mono B4.out.size))
              have hlk : Lk.length ≤ 4194304 := by rw [hLk, fold_len]; exact Nat.le_trans (List.length_filter_le _ _) (by rw [List.length_take]; omega)
              clear hi hLk hO hB
              have hil0 : (i : Int) ≤ 4194304 := by have := HI.out; omega
              by_cases hil : i < o.length
              · have hii : (i : Int) < (o.length : Int) := by omega
                obtain ⟨a2, hA2, ex⟩ := name_at (Kd.C_below CO.out BZ2.out) rfl i hil
                obtain ⟨y, hy⟩ : ∃ y, o[i] = y := ⟨_, rfl⟩
                rw [hy] at ex
                subst hA2
                have FC := Lib.hid (find_c A c l y wr (Kd.C_below HCL.out BZ4.out) (by have := HF.out.2.2; omega))
                have hfs := fold_snoc l o done i hil
                rw [hy, ← HLK.out] at hfs
                have HFS := Lib.hid hfs
                have hkx := HKN.out y (hy ▸ List.getElem_mem hil)
                clear hfs hy
                rcases findV_cases l y with ⟨hfv, hnm⟩ | ⟨q, hq, hfv, hnm⟩
                · exact absurd (uses_none hnm) hkx
                · have huo := usesOf_at HBD.out (List.getElem_mem hq)
                  rw [hnm] at huo
                  have hus : uses l y = (l[q]).2 := by unfold uses; rw [huo]; rfl
                  have hul : (uses l y).length ≤ 4194304 := Nat.le_trans (uses_len l y) HF.out.2.1
                  obtain ⟨al, Au, cu, hAl, e1, e2, hCu, hcu⟩ := vocab_at HCL.out rfl q hq
                  rw [← hus] at e2 hCu hcu
                  rw [hnm] at e1
                  subst hAl
                  have q0 := (BZ4.out.cell (World.block_lt_of_cell? _ _ e1)).trans e1
                  have q1 := (BZ4.out.cell (p := ⟨(al.add (q * 2)).block, (al.add (q * 2)).off + 1, none⟩) (World.block_lt_of_cell? _ _ e2)).trans e2
                  have CDz := Lib.hid (Kd.C_below CD.out BZ.out)
                  have H1 := Lib.hid (has_c Ad cd done y wr CDz.out (by omega))
                  have ry : Calls Try.prog 29 #[.agg #[.string y, .slice Au (uses l y).length cu], .slice Ad done.length cd, .slice none 0 0] wr fun e w' => e = .returned (.bool (rdyV (uses l y) done [])) ∧ Below wr.heap.size wr w' := ready_c y Au cu (uses l y) Ad none cd 0 done [] wr (Kd.C_below hCu BZ4.out) CDz.out (Kd.C_nil Kd.string wr) hul (by omega) (by simp)
                  have RY := Lib.hid ry
                  obtain ⟨p, hp⟩ : ∃ p : Bool, p = decide (y ∈ done) := ⟨_, rfl⟩
                  obtain ⟨r, hr⟩ : ∃ r : Bool, r = rdyV (uses l y) done [] := ⟨_, rfl⟩
                  have HMB := Lib.hid (show mayB l [] done y = (!p && r) by
                    rw [hp, hr, Bool.eq_iff_iff, mayB_true, Bool.and_eq_true, rdyV_true]
                    simp)
                  rw [← hp] at H1
                  rw [← hr] at RY
                  have HFV := Lib.hid hfv
                  have HKL := Lib.hid hq
                  have hqi : (q : Int) < (l.length : Int) := by omega
                  clear hfv hnm huo hus e1 e2 hCu hp hr hkx hq ry
                  cases p
                  · cases r
                    · have hF2 : Hid (((o.take (i + 1)).filter (mayB l [] done)).foldl insS [] = Lk) := Lib.hid (by rw [HFS.out, HMB.out]; simp)
                      go_wp2_with (first
                        | (go_at_call 28; with_reducible refine H1.out.mono ?_; rintro en wx ⟨rfl, hwx⟩; rw [hwx]; clear hwx)
                        | (go_at_call 27; with_reducible refine FC.out.mono ?_; rintro en wx ⟨rfl, hwx⟩; rw [hwx, HFV.out]; clear hwx)
                        | (go_at_call 29; with_reducible refine RY.out.mono ?_; rintro en w9 ⟨rfl, b9⟩; have B11 := Lib.hid b9; clear b9)
                        | fail)
                      have O9 := Lib.hid (OwnS.below OL.out B11.out)
                      have B9 := Lib.hid (BZ.out.trans (B11.out.mono BZ.out.size))
                      go_roundg (gk - 1)
                      case measure => have := HI.out; omega
                      case rel => exact ⟨i + 1, Lk, Al, cl, (by simp), rfl, ⟨by have := HI.out; omega, hF2.out.symm⟩, ⟨O9.out⟩, ⟨B9.out⟩⟩
                    · have hF2 : Hid (((o.take (i + 1)).filter (mayB l [] done)).foldl insS [] = insS Lk y) := Lib.hid (by rw [HFS.out, HMB.out]; rfl)
                      go_wp2_with (first
                        | (go_at_call 28; with_reducible refine H1.out.mono ?_; rintro en wx ⟨rfl, hwx⟩; rw [hwx]; clear hwx)
                        | (go_at_call 27; with_reducible refine FC.out.mono ?_; rintro en wx ⟨rfl, hwx⟩; rw [hwx, HFV.out]; clear hwx)
                        | (go_at_call 29; with_reducible refine RY.out.mono ?_; rintro en w9 ⟨rfl, b9⟩; have B11 := Lib.hid b9
                           have O9 := Lib.hid (OwnS.below OL.out b9)
                           have B9 := Lib.hid (BZ.out.trans (b9.mono BZ.out.size))
                           have ex9 := (b9.cell (World.block_lt_of_cell? _ _ ex)).trans ex
                           have IN := Lib.hid (insert_c Al cl Lk y wq.heap.size w9 O9.out (by omega))
                           clear b9)
                        | (go_at_call 31; with_reducible refine IN.out.mono ?_; rintro en w7 ⟨v7, rfl, o7, b7⟩; obtain ⟨A7, c7, rfl⟩ := OwnS.slice o7
                           have O7 := Lib.hid (own_weaken o7 B9.out.size)
                           have B7 := Lib.hid (B9.out.trans (b7.mono B9.out.size))
                           clear o7 b7)
                        | fail)
                      go_roundg (gk - 1)
                      case measure => have := HI.out; omega
                      case rel => exact ⟨i + 1, insS Lk y, A7, c7, (by simp), rfl, ⟨by have := HI.out; omega, hF2.out.symm⟩, ⟨O7.out⟩, ⟨B7.out⟩⟩
                  · have hF2 : Hid (((o.take (i + 1)).filter (mayB l [] done)).foldl insS [] = Lk) := Lib.hid (by rw [HFS.out, HMB.out]; simp)
                    go_wp2_with (first
                      | (go_at_call 28; with_reducible refine H1.out.mono ?_; rintro en wx ⟨rfl, hwx⟩; rw [hwx]; clear hwx)
                      | fail)
                    go_roundg (gk - 1)
                    case measure => have := HI.out; omega
                    case rel => exact ⟨i + 1, Lk, Al, cl, (by simp), rfl, ⟨by have := HI.out; omega, hF2.out.symm⟩, ⟨OL.out⟩, ⟨BZ.out⟩⟩
              · have hii : ¬ (i : Int) < (o.length : Int) := by omega
                have hlev : Lk = msort (o.filter (fun x => decide (lvN l o x = k))) := by
                  have h := HLK.out
                  rw [List.take_of_length_le (by omega), HLS2.out.next k done HDN.out.mem, msort_ins] at h
                  exact h
                have HDN2 := Lib.hid (show DN l o (k + 1) (done ++ Lk) by rw [hlev]; exact HDN.out.snoc HLS2.out)
                have HTK := Lib.hid (show ((levs l o).2.map msort).take (k + 1) = ((levs l o).2.map msort).take k ++ [Lk] by rw [hlev]; exact lev_take HLS2.out (by rw [← HL.out]; exact hkL))
                have LDz := Lib.hid LDH.out
                clear hlev
                go_wp2_with (first
                  | ((with_reducible refine gate_builtin (b := .append) (xs := #[.tmp 74, .tmp 75]) rfl ?_); at_builtin; go_loud (refine Kd.R_append_rows Kd.string (w0 := wr) (W := wr) w2.heap.size rfl (.tmp 74) (.tmp 75) 23 9 (.string ByteArray.empty) 16 rfl (by kernel_rfl) info9m rfl (by decide) (by decide) (.slice Ad done.length cd) done Lk Al Lk.length cl (fun _ => True) (fun _ => False) rfl rfl (Kd.R_of_own (OwnS.below LDz.out.d BZ.out) (fun _ _ => trivial)) (OwnS.reads OL.out).1 (fun _ _ h => h) (fun _ h => h.elim) (fun _ _ => trivial) (Below.refl _ _) BZ2.out.size (by omega) ?_); intro v6 w6 r6 b6 g6 at6
                     obtain ⟨d6, hd6⟩ : ∃ d6, d6 = done ++ Lk := ⟨_, rfl⟩
                     rw [← hd6] at r6 HDN2
                     obtain ⟨A6, c6, rfl⟩ := Kd.R_slice r6
                     have o6 : OwnS w6 w2.heap.size (.slice A6 d6.length c6) d6 := Kd.own_of_R r6
                     have hd := LDz.out.done_ (dv' := .slice A6 d6.length c6) BZ.out OL.out g6 (by rw [← hd6]; exact o6) at6
                     rw [← hd6] at hd
                     have LD6 := Lib.hid hd.1
                     have P6 := Lib.hid hd.2.1
                     have PD6 := Lib.hid hd.2.2
                     have B6 := Lib.hid (BZ2.out.trans b6)
                     clear r6 b6 g6 at6 o6 hd hd6)
                  | ((with_reducible refine gate_builtin (b := .append) (xs := #[.tmp 77, .tmp 79]) rfl ?_); at_builtin; go_loud (refine Kd.R_append slc (w0 := w6) (W := w6) w2.heap.size rfl (.tmp 77) (.tmp 79) 37 23 (.slice none 0 0) 24 rfl (by kernel_rfl) info23m rfl (by decide) (by decide) (.slice Ao us.length co) us ((Al, Lk.length, cl) : SL) [.slice Al Lk.length cl] (fun _ => True) (fun _ => False) rfl rfl rfl (fun _ h => h.elim) (fun _ _ => trivial) (Kd.R_of_own LD6.out.lv.row (fun _ _ => trivial)) (Below.refl _ _) B6.out.size (by omega) ?_); intro v7 w7 r7 b7 g7 at7
                     obtain ⟨u7, hu7⟩ : ∃ u7, u7 = us ++ [((Al, Lk.length, cl) : SL)] := ⟨_, rfl⟩
                     rw [← hu7] at r7
                     go_loud (obtain ⟨A7, c7, rfl⟩ := Kd.R_slice r7)
                     have hr7 := Kd.own_of_R r7
                     have hul7 : u7.length = us.length + 1 := by rw [hu7]; simp
                     have hd := LD6.out.out_ (ov' := .slice A7 u7.length c7) (p := ((Al, Lk.length, cl) : SL)) (by exact B3.out.size) P6.out PD6.out g7 (by rw [← hu7, ← hul7]; exact hr7) at7
                     rw [← hu7, ← HTK.out] at hd
                     have LD7 := Lib.hid hd
                     have B7 := Lib.hid (B6.out.trans b7)
                     clear r7 b7 g7 at7 hr7 hd hu7 hul7)
                  | fail)
                go_roundg (go - 1)
                case measure => have := KM2.out; omega
                case rel => exact ⟨k + 1, u7, A7, c7, d6, A6, c6, (by simp), (by simp), ⟨by have := KM2.out; omega, HDN2.out⟩, ⟨LD7.out⟩, ⟨B7.out⟩⟩
          · have hlt : ¬ done.length < o.length := DN.stop HLS2.out HDN.out (by rw [← HL.out]; omega)
            have hlti : ¬ (done.length : Int) < (o.length : Int) := by omega
            have HTK := Lib.hid (show ((levs l o).2.map msort).take k = (levs l o).2.map msort from List.take_of_length_le (by rw [List.length_map, ← HL.out]; omega))
            go_wp2_with fail
            go_ret2
            exact ⟨_, rfl, ⟨us, by have h := LDH.out.lv; rw [HTK.out] at h; exact LV.lower h B2.out.size⟩, B4.out⟩
      · have hei : ¬ e = 0 := he
        go_wp2_with (first
          | (go_at_call 13; with_reducible refine SO.out.mono ?_; rintro en w2 ⟨v2, r2, hen, o2, hr2, b2⟩; rw [HBE.out] at hr2; obtain rfl := HR.out.unique hr2; subst hen; dsimp only; have B2 := Lib.hid (B.out.trans (b2.mono B.out.size)); clear o2 b2 hr2)
          | fail)
        go_ret2
        exact ⟨_, rfl, ⟨[], by first | exact LV.nil _ _ | (rw [if_neg he]; exact LV.nil _ _)⟩, B2.out⟩
theorem plays_c (A : Option Addr) (c : Nat) (l : List Vo) (B : Option Addr) (d : Nat) (wl : List ByteArray) (D : Option Addr) (g : Nat) (hv : List ByteArray) (w : World) (hC : kV.C w A l.length l) (hc : l.length ≤ c) (hF : Fine l)
    (hW : Kd.string.C w B wl.length wl) (hWn : Names wl) (hH : Kd.string.C w D hv.length hv) (hHn : Names hv) :
    Calls Try.prog 5 #[.slice A l.length c, .slice B wl.length d, .slice D hv.length g] w fun e w' => e = .returned (.bool true) ∧ Below w.heap.size w w' := by
  obtain ⟨⟨o, x, e⟩, hr, hR⟩ := sortV_res hF wl hv (by have := hWn.2; omega)
  have hol : o.length ≤ 4194304 := by
    rcases hR.shape with ⟨_, _, h⟩ | ⟨h, _⟩
    · have := h.len; have := hF.2.2; omega
    · rw [h]; simp
  obtain ⟨⟨o2, x2, e2⟩, hr2, hR2⟩ := sortV_res hF (l.map (·.1)) [] (by rw [List.length_map]; exact hF.2.2)
  have hlev : e2 = 0 → LevOk l o2 := fun he => by
    rcases hR2.shape with ⟨_, _, h⟩ | ⟨_, h⟩
    · exact levOk_of (fun i hi u hu => (h.ord.use i hi u hu).resolve_right (by simp))
    · omega
  have hos : (∀ u ∈ o2, u.size ≤ maxLen) ∧ o2.length ≤ 4194304 := by
    rcases hR2.shape with ⟨_, _, h⟩ | ⟨h, _⟩
    · refine ⟨h.size hF (fun u hu => ?_), by have := h.len; have := hF.2.2; omega⟩
      obtain ⟨v, hv, rfl⟩ := List.mem_map.1 hu
      exact (hF.1 v hv).1
    · rw [h]; exact ⟨fun u hu => absurd hu List.not_mem_nil, Nat.zero_le _⟩
  have HCL := Lib.hid hC
  have HC := Lib.hid hc
  have HF := Lib.hid hF
  have HW := Lib.hid hW
  have HWN := Lib.hid hWn
  have HH := Lib.hid hH
  have HHN := Lib.hid hHn
  have HR := Lib.hid hr
  have HRS := Lib.hid hR
  have HR2 := Lib.hid hr2
  have HRS2 := Lib.hid hR2
  have HLEV := Lib.hid hlev
  have HOS := Lib.hid hos
  have AW := Lib.hid (awake_c w)
  obtain ⟨outs, hout⟩ : ∃ outs, outs = (if e2 = 0 then (levs l o2).2.map msort else []) := ⟨_, rfl⟩
  have hol2 : outs.length ≤ 4194304 := by
    rw [hout]
    split
    · rw [List.length_map]; have h1 := (levs_len l o2.length o2 rfl).1; have h2 := hos.2; omega
    · simp
  have HXL : Hid (∀ r ∈ outs, r.length ≤ 16777216) := Lib.hid (fun r hr => by
    rw [hout] at hr
    split at hr
    · obtain ⟨r', hr', rfl⟩ := List.mem_map.1 hr
      have h5 := (levs_len l o2.length o2 rfl).2 r' hr'
      have h7 := hos.2
      rw [msort_len]
      omega
    · cases hr)
  have HOUT := Lib.hid hout
  have hll : (l.length : Int) ≤ 4194304 := by have := hF.2.2; omega
  have hwl : (wl.length : Int) ≤ 1048576 := by have := hWn.2; omega
  clear hC hc hF hW hWn hH hHn hr hR hr2 hR2 hlev hos hout
  go_enter Try.func5, Try.ntmps5
  go_wp2_with (first
    | (go_at_call 7; with_reducible refine AW.out.mono ?_; rintro en w0 ⟨rfl, b0⟩; have B0 := Lib.hid b0; have VO := Lib.hid (vocabs_c A c l w0 (Kd.C_below HCL.out b0) HF.out); clear b0)
    | (go_at_call 9; with_reducible refine VO.out.mono ?_; rintro en w1 ⟨A1, c1, rfl, r1, b1⟩; have R1 := Lib.hid r1; have B1 := Lib.hid (B0.out.trans (b1.mono B0.out.size)); have OW := Lib.hid (own_c B d wl w1 (Kd.C_below HW.out B1.out) (by have := HWN.out.2; omega)); clear r1 b1)
    | (go_at_call 10; with_reducible refine OW.out.mono ?_; rintro en w2 ⟨v2, rfl, o2', b2⟩; obtain ⟨A2, c2, rfl⟩ := OwnS.slice o2'; have O2 := Lib.hid o2'; have BB2 := Lib.hid b2; have B2 := Lib.hid (B1.out.trans (b2.mono B1.out.size)); have OH := Lib.hid (own_c D g hv w2 (Kd.C_below HH.out B2.out) (by have := HHN.out.2; omega)); clear o2' b2)
    | (go_at_call 10; with_reducible refine OH.out.mono ?_; rintro en w3 ⟨v3, rfl, o3, b3⟩; obtain ⟨A3, c3, rfl⟩ := OwnS.slice o3; have B3 := Lib.hid (B2.out.trans (b3.mono B2.out.size))
       have SO := Lib.hid (Sort_c A1 c1 l A2 c2 wl A3 c3 hv w3 ((VC_of_R R1.out).1.below (BB2.out.trans (b3.mono BB2.out.size))) (VC_of_R R1.out).2 HF.out (Kd.C_below (OwnS.reads O2.out).1 b3) (OwnS.reads O2.out).2.1 (OwnS.reads O2.out).2.2 ⟨HWN.out.1, by have := HWN.out.2; omega⟩ (OwnS.reads o3).1 (OwnS.reads o3).2.1 ⟨HHN.out.1, by have := HHN.out.2; omega⟩ _ _ _ HR.out)
       clear o3 b3)
    | (go_at_call 8; with_reducible refine SO.out.mono ?_; rintro en w4 ⟨v4, rfl, o4, b4⟩; obtain ⟨A4, c4, rfl⟩ := OwnS.slice o4; have O4 := Lib.hid o4; have B4 := Lib.hid (B3.out.trans (b4.mono B3.out.size))
       have RS := Lib.hid (refSort_c A c l B d wl D g hv w4 (Kd.C_below HCL.out B4.out) HC.out HF.out (Kd.C_below HW.out B4.out) (by have := HWN.out.2; omega) (Kd.C_below HH.out B4.out) (by have := HHN.out.2; omega))
       clear o4 b4)
    | (go_at_call 13; with_reducible refine RS.out.mono ?_; rintro en w5 ⟨v5, r5, hen, o5, hr5, b5⟩; obtain rfl := HRS.out.unique hr5; subst hen; dsimp only at o5 ⊢; obtain ⟨A5, c5, rfl⟩ := OwnS.slice o5; have O5 := Lib.hid o5; have BB5 := Lib.hid b5; have B5 := Lib.hid (B4.out.trans (b5.mono B4.out.size))
       have VO2 := Lib.hid (vocabs_c A c l w5 (Kd.C_below HCL.out B5.out) HF.out)
       clear o5 b5 hr5)
    | (go_at_call 9; with_reducible refine VO2.out.mono ?_; rintro en w6 ⟨A6, c6, rfl, r6, b6⟩; have BB6 := Lib.hid b6; have B6 := Lib.hid (B5.out.trans (b6.mono B5.out.size))
       have LE := Lib.hid (Levels_c A6 c6 l w6 (VC_of_R r6).1 (VC_of_R r6).2 HF.out o2 x2 e2 HR2.out HLEV.out ⟨HOS.out.1, by have := HOS.out.2; omega⟩)
       rw [← HOUT.out] at LE
       clear r6 b6)
    | (go_at_call 14; with_reducible refine LE.out.mono ?_; rintro en w7 ⟨ov, rfl, ⟨us, hlv⟩, b7⟩; obtain ⟨Al, cl, rfl⟩ := LV.slice hlv; have LVH := Lib.hid hlv; have BB7 := Lib.hid b7; have B7 := Lib.hid (B6.out.trans (b7.mono B6.out.size))
       have RL := Lib.hid (refLevels_c A c l w7 (Kd.C_below HCL.out B7.out) HC.out HF.out o2 x2 e2 HRS2.out)
       rw [← HOUT.out] at RL
       clear hlv b7)
    | (go_at_call 15; with_reducible refine RL.out.mono ?_; rintro en w8 ⟨ow, rfl, ⟨ut, hlv⟩, b8⟩; obtain ⟨Am, cm, rfl⟩ := LV.slice hlv; have LVM := Lib.hid hlv; have BB8 := Lib.hid b8; have B8 := Lib.hid (B7.out.trans (b8.mono B7.out.size))
       have SA := Lib.hid (same_c A4 A5 c4 c5 o o w8 (Kd.C_below (OwnS.reads O4.out).1 ((BB5.out.trans (BB6.out.mono BB5.out.size)).trans ((BB7.out.mono (Nat.le_trans BB5.out.size BB6.out.size)).trans (b8.mono (Nat.le_trans (Nat.le_trans BB5.out.size BB6.out.size) BB7.out.size))))) (Kd.C_below (OwnS.reads O5.out).1 ((BB6.out.trans (BB7.out.mono BB6.out.size)).trans (b8.mono (Nat.le_trans BB6.out.size BB7.out.size)))) (by omega))
       clear hlv b8)
    | (go_at_call 12; with_reducible refine SA.out.mono ?_; rintro en w9 ⟨rfl, b9⟩; have BB9 := Lib.hid b9; have B9 := Lib.hid (B8.out.trans (b9.mono B8.out.size))
       have hn1 := LVH.out.len
       have hn2 := LVM.out.len
       clear b9)
    | fail)
  have HN1 := Lib.hid hn1
  have HN2 := Lib.hid hn2
  have B79 := Lib.hid (BB8.out.trans (BB9.out.mono BB8.out.size))
  clear hn1 hn2
  go_loopg [17] outs.length (fun mm iv wr => ∃ i : Nat, iv = .int .i64 i ∧ Aside1 (i + mm = outs.length) ∧ Aside1 (Below w9.heap.size w9 wr))
  case atStart => exact ⟨0, rfl, ⟨by omega⟩, ⟨Below.refl _ _⟩⟩
  case round =>
    obtain ⟨i, rfl, ⟨hi⟩, ⟨hB⟩⟩ := hrel
    have HI := Lib.hid hi
    have BR := Lib.hid hB
    have B10 := Lib.hid (B9.out.trans (hB.mono B9.out.size))
    have B7R := Lib.hid (B79.out.trans (hB.mono B79.out.size))
    have B8R := Lib.hid (BB9.out.trans (hB.mono BB9.out.size))
    clear hi hB
    have hil0 : (i : Int) ≤ 4194304 := by have := HI.out; omega
    by_cases hil : i < outs.length
    · have hii : (i : Int) < (outs.length : Int) := by omega
      have hi1 : i < us.length := by have := HN1.out; omega
      have him : i < ut.length := by have := HN2.out; omega
      obtain ⟨ga, Ai, ci, xi, hA1, _, _, _, hoi, _, hOi, q1, _⟩ := LV.get (LVH.out.below B7R.out) i hi1
      obtain ⟨gb, Bi, di, yi, hA2, _, _, _, hoj, _, hOj, q2, _⟩ := LV.get (LVM.out.below B8R.out) i him
      obtain rfl : xi = yi := by rw [hoi] at hoj; injection hoj
      have hxl := HXL.out xi (List.mem_of_getElem? hoi)
      subst hA1
      subst hA2
      have BD := Lib.hid (((Only.refl wr (fun _ => False)).drew).below_all)
      have HLT := Lib.hid (show ∀ (p : Addr) (v : Value), wr.cell? p = some v → ∀ w', Below wr.heap.size wr w' → w'.cell? p = some v from fun p v h w' hb => (hb.cell (World.block_lt_of_cell? _ _ h)).trans h)
      have HLT2 := Lib.hid (show ∀ w', Below wr.heap.size wr w' → w'.cell? ⟨ga, i, none⟩ = some (.slice Ai xi.length ci) ∧ w'.cell? ⟨gb, i, none⟩ = some (.slice Bi xi.length di) from fun w' hb => ⟨HLT.out _ _ q1 _ hb, HLT.out _ _ q2 _ hb⟩)
      have SA3 := Lib.hid (same_c Ai Bi ci di xi xi wr.drew (Kd.C_below (OwnS.reads hOi).1 BD.out) (Kd.C_below (OwnS.reads hOj).1 BD.out) hxl)
      clear hoi hoj hOi hOj
      go_wp2_with fail
      go_region_held3 (fun w' => w'.cell? ⟨ga, i, none⟩ = some (.slice Ai xi.length ci) ∧ w'.cell? ⟨gb, i, none⟩ = some (.slice Bi xi.length di)) (exact HLT2.out _ (by first | exact BD.out | exact B11.out)) (first
        | (go_at_call 12; refine SA3.out.mono ?_; rintro en wz ⟨rfl, bz⟩; have B11 := Lib.hid (BD.out.trans (bz.mono BD.out.size)); clear bz))
      all_goals
        go_wp2_with fail
        go_roundg (gk - 1)
        case measure => have := HI.out; omega
        case rel => exact ⟨i + 1, (by simp), ⟨by have := HI.out; omega⟩, ⟨BR.out.trans (B11.out.mono BR.out.size)⟩⟩
    · have hii : ¬ (i : Int) < (outs.length : Int) := by omega
      go_wp2_with fail
      go_ret
      exact ⟨rfl, B10.out⟩
end Go.Proofs.Ytlphpmdmlcphbaa.Or
