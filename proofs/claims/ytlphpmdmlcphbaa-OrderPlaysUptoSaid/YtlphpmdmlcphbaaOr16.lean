/- Seat E: vocabularies of package api, walked. -/
import Derived.Test.YtlphpmdmlcphbaaOr15
namespace Go.Proofs.Ytlphpmdmlcphbaa.Or
open Go Go.RowKit Go.Proofs.Ytlphpmdmlcphbaa.Mem Go.Proofs.YtlphpmdmlcphbaaW.PrintWords Go.Maps Go.Proofs.Ytlphpmdmlcphbaa.Om
set_option linter.unusedVariables false
set_option linter.unusedSimpArgs false
set_option maxRecDepth 100000
set_option maxHeartbeats 3000000
theorem info41 : (Try.prog.info? 41).map (fun i => (i.zero, i.size, i.bytes)) = some (some (.agg #[.string ByteArray.empty, .slice none 0 0]), 2, 40) := by kernel_rfl
theorem api_c (A : Option Addr) (c : Nat) (l : List Vo) (w : World) (hC : kV.C w A l.length l) (hF : Fine l) :
    Calls Try.prog 23 #[.agg #[.slice A l.length c, .slice none 0 0]] w fun e w' => ∃ A' c', e = .returned (.agg #[.slice A' l.length c', .slice none 0 0]) ∧ kV.R 41 w' w.heap.size (fun _ => True) (.slice A' l.length c') l ∧ Below w.heap.size w w' := by
  have HC := Lib.hid hC
  have HF := Lib.hid hF
  have hll : (l.length : Int) ≤ 4194304 := by have := hF.2.2; omega
  clear hC hF
  go_enter Try.func23, Try.ntmps23
  go_wp2_with fail
  obtain ⟨b1, hb1⟩ : ∃ b, b = w.heap.size := ⟨_, rfl⟩
  obtain ⟨b2, hb2⟩ : ∃ b, b = w.heap.size + 1 := ⟨_, rfl⟩
  obtain ⟨b3, hb3⟩ : ∃ b, b = w.heap.size + 1 + 1 := ⟨_, rfl⟩
  have X1 : Hid (Blk (((w.alloc (.cells #[.slice A l.length c, .slice none 0 0] 61)).alloc (.cells #[.slice none 0 0, .slice none 0 0] 57)).alloc (.cells #[.slice none 0 0, .slice none 0 0] 57)) w.heap.size 61 [.slice A l.length c, .slice none 0 0]) := Lib.hid (((Blk.new w 61 [.slice A l.length c, .slice none 0 0]).alloc _).alloc _)
  have X2 : Hid (Blk (((w.alloc (.cells #[.slice A l.length c, .slice none 0 0] 61)).alloc (.cells #[.slice none 0 0, .slice none 0 0] 57)).alloc (.cells #[.slice none 0 0, .slice none 0 0] 57)) (w.heap.size + 1) 57 [.slice none 0 0, .slice none 0 0]) := Lib.hid (by have h := (Blk.new (w.alloc (.cells #[.slice A l.length c, .slice none 0 0] 61)) 57 [.slice none 0 0, .slice none 0 0]).alloc (.cells #[.slice none 0 0, .slice none 0 0] 57); rw [World.size_alloc] at h; exact h)
  have X3 : Hid (Blk (((w.alloc (.cells #[.slice A l.length c, .slice none 0 0] 61)).alloc (.cells #[.slice none 0 0, .slice none 0 0] 57)).alloc (.cells #[.slice none 0 0, .slice none 0 0] 57)) (w.heap.size + 1 + 1) 57 [.slice none 0 0, .slice none 0 0]) := Lib.hid (by have h := (Blk.new ((w.alloc (.cells #[.slice A l.length c, .slice none 0 0] 61)).alloc (.cells #[.slice none 0 0, .slice none 0 0] 57)) 57 [.slice none 0 0, .slice none 0 0]); rw [World.size_alloc, World.size_alloc] at h; exact h)
  have XB : Hid (Below w.heap.size w (((w.alloc (.cells #[.slice A l.length c, .slice none 0 0] 61)).alloc (.cells #[.slice none 0 0, .slice none 0 0] 57)).alloc (.cells #[.slice none 0 0, .slice none 0 0] 57))) := Lib.hid (((((Only.refl w (fun _ => False)).alloc _).alloc _).alloc _).below_all)
  generalize (((w.alloc (.cells #[.slice A l.length c, .slice none 0 0] 61)).alloc (.cells #[.slice none 0 0, .slice none 0 0] 57)).alloc (.cells #[.slice none 0 0, .slice none 0 0] 57)) = w0 at *
  rw [← hb3, ← hb2, ← hb1]
  rw [← hb1] at X1
  rw [← hb2] at X2
  rw [← hb3] at X3
  have HBS : Hid (b1 = w.heap.size ∧ b2 = w.heap.size + 1 ∧ b3 = w.heap.size + 1 + 1) := Lib.hid ⟨hb1, hb2, hb3⟩
  clear hb1 hb2 hb3
  go_loopg [4] l.length (fun mm iv wr => ∃ (i : Nat) (Bk : List Vo) (Av : Option Addr) (cv : Nat), iv = .int .i64 i ∧ Aside1 (i + mm = l.length ∧ l.take i = Bk) ∧ Aside1 (kV.R 41 wr w.heap.size (fun k => k ≠ b1 ∧ k ≠ b2 ∧ k ≠ b3) (.slice Av Bk.length cv) Bk) ∧ Aside1 (Blk wr b1 61 [.slice A l.length c, .slice none 0 0]) ∧ Aside1 (Blk wr b2 57 [.slice none 0 0, .slice none 0 0]) ∧ Aside1 (Blk wr b3 57 [.slice Av Bk.length cv, .slice none 0 0]) ∧ Aside1 (Below w.heap.size w wr))
  case atStart => exact ⟨0, [], none, 0, rfl, ⟨by omega, rfl⟩, ⟨Kd.R_nil _ _ _ _ _⟩, ⟨X1.out⟩, ⟨X2.out⟩, ⟨X3.out⟩, ⟨XB.out⟩⟩
  case round =>
    obtain ⟨i, Bk, Av, cv, rfl, ⟨hi, hBk⟩, ⟨hR⟩, ⟨h1⟩, ⟨h2⟩, ⟨h3⟩, ⟨hB⟩⟩ := hrel
    have HI := Lib.hid hi
    have HBK := Lib.hid hBk
    have R := Lib.hid hR
    have G1 := Lib.hid h1
    have G2 := Lib.hid h2
    have G3 := Lib.hid h3
    have B := Lib.hid hB
    have k1 := h1.cell_at 0 _ rfl
    clear hi hBk hR h1 h2 h3 hB X1 X2 X3 XB
    have hil0 : (i : Int) ≤ 4194304 := by have := HI.out; omega
    by_cases hil : i < l.length
    · have hii : (i : Int) < (l.length : Int) := by omega
      obtain ⟨ad, Au, cu, hAd, e1, e2, hCu, hcu⟩ := vocab_at HC.out rfl i hil
      subst hAd
      obtain ⟨name, us, hlk⟩ : ∃ name us, l[i] = (name, us) := ⟨_, _, rfl⟩
      have hmem : (name, us) ∈ l := hlk ▸ List.getElem_mem hil
      have hul : Hid (us.length ≤ 4194304) := Lib.hid (by have h1 := HF.out.2.1; have h2 := le_tot hmem; dsimp only at h2; omega)
      rw [hlk] at e1 e2 hCu hcu
      dsimp only at e1 e2 hCu hcu
      have HLK := Lib.hid hlk
      have e1w := (B.out.cell (World.block_lt_of_cell? _ _ e1)).trans e1
      have e2w := (B.out.cell (p := ⟨(ad.add (i * 2)).block, (ad.add (i * 2)).off + 1, none⟩) (World.block_lt_of_cell? _ _ e2)).trans e2
      have k3 := G3.out.cell_at 0 _ rfl
      have f3 := G3.out.frozen 0
      have HBk : Hid (Bk.length ≤ 4194304) := Lib.hid (by rw [← HBK.out]; simp; omega)
      have BS := Lib.hid B.out.size
      have hlt : ∀ (p : Addr) (v : Value), wr.cell? p = some v → ∀ w', Below wr.heap.size wr w' → w'.cell? p = some v := fun p v h w' hb => (hb.cell (World.block_lt_of_cell? _ _ h)).trans h
      have HLT := Lib.hid hlt
      have b0 : Below wr.heap.size wr (wr.alloc (.cells #[] 9)) := (((Only.refl wr (fun _ => False)).alloc _)).below_all
      have b0d : Below wr.heap.size wr (wr.alloc (.cells #[] 9)).drew := (((Only.refl wr (fun _ => False)).alloc _).drew).below_all
      have B0 := Lib.hid b0d
      have e1a := hlt _ _ e1w _ b0
      have e2a := hlt _ _ e2w _ b0
      have k1a := hlt _ _ k1 _ b0
      have k3a := hlt _ _ k3 _ b0
      have HCu := Lib.hid (Kd.C_below hCu (B.out.trans (b0d.mono B.out.size)))
      have G3L := Lib.hid G3.out.lt
      have ADL : Hid ((ad.add (i * 2)).block < w.heap.size) := Lib.hid (World.block_lt_of_cell? _ _ e1)
      clear hlt e1 e2 hCu hlk hmem b0 b0d
      have HRe : Hid (Kd.string.R 9 (wr.alloc (.cells #[] 9)).drew wr.heap.size (fun _ => True) (.slice (some ⟨wr.heap.size, 0, none⟩) 0 0) []) := Lib.hid (Kd.R_of_own (World.ownsRow.drew (empty_own wr 9 wr.heap.size (Nat.le_refl _))) (fun _ _ => trivial))
      have hLL : (([] : List ByteArray).length + us.length) * 16 ≤ 140737488355328 := by have := hul.out; simp; omega
      have hLV : (Bk.length + 1) * 40 ≤ 140737488355328 := by have := HBk.out; omega
      have APP : Hid (∀ (w3 : World) (A3 : Option Addr) (c3 : Nat), Kd.string.R 9 w3 wr.heap.size (fun _ => True) (.slice A3 us.length c3) us → Below wr.heap.size wr w3 →
          kV.M w3 w.heap.size (fun k => wr.heap.size ≤ k) (name, us) [.string name, .slice A3 us.length c3] ∧ (∀ k, wr.heap.size ≤ k → (k ≠ b1 ∧ k ≠ b2 ∧ k ≠ b3) ∧ some k ≠ (Value.slice Av Bk.length cv).ownBlock) ∧ (∀ k, w3.heap.size ≤ k → k ≠ b1 ∧ k ≠ b2 ∧ k ≠ b3) ∧
          kV.R 41 w3 w.heap.size (fun k => k ≠ b1 ∧ k ≠ b2 ∧ k ≠ b3) (.slice Av Bk.length cv) Bk ∧ w.heap.size ≤ w3.heap.size) := by
        refine Lib.hid fun w3 A3 c3 hr hb => ?_
        have hs := hb.size
        have hl1 := G1.out.lt
        have hl2 := G2.out.lt
        have hl3 := G3.out.lt
        have hws := B.out.size
        refine ⟨⟨[.string name], [.slice A3 us.length c3], rfl, rfl, ⟨_, rfl, Kd.R_lower (Kd.R_mono (Kd.R_bound hr) (fun k hk => hk.2.1)) hws⟩⟩, fun k hk => ⟨⟨by omega, by omega, by omega⟩, fun e => ?_⟩, fun k hk => ⟨by omega, by omega, by omega⟩, Kd.R_below R.out hb, by omega⟩
        have := Kd.R_lt R.out k e.symm
        omega
      have NB3 : Hid (some b3 ≠ (Value.slice Av Bk.length cv).ownBlock) := Lib.hid (fun e => (R.out.1 b3 e.symm).2.2 rfl)
      have NB1 : Hid (some b1 ≠ (Value.slice Av Bk.length cv).ownBlock) := Lib.hid (fun e => (R.out.1 b1 e.symm).1 rfl)
      have NBA : Hid (some (ad.add (i * 2)).block ≠ (Value.slice Av Bk.length cv).ownBlock) := Lib.hid (fun e => by
        have h1 := Kd.R_base R.out _ e.symm
        have h2 := ADL.out
        omega)
      have N13 : Hid (b1 ≠ b3) := Lib.hid (by have := HBS.out; omega)
      have NA3 : Hid ((ad.add (i * 2)).block ≠ b3) := Lib.hid (by have := HBS.out; have := ADL.out; omega)
      have B3L : Hid (b3 < wr.heap.size) := G3L
      go_wp2_with fail
      have E1 := Lib.hid (HLT.out _ _ e1w)
      have E2 := Lib.hid (HLT.out _ _ e2w)
      have K1 := Lib.hid (HLT.out _ _ k1)
      have K3 := Lib.hid (HLT.out _ _ k3)
      have F3 : Hid (∀ w', Below wr.heap.size wr w' → w'.frozen? ⟨b3, 0, none⟩ = false) := Lib.hid (fun w' hb => (hb.frozen B3L.out).trans f3)
      clear f3
      refine wp_region_held_drew (S := (fun w' => w'.cell? ⟨b1, 0, none⟩ = some (.slice (some ad) l.length c) ∧ w'.cell? (ad.add (i * 2)) = some (.string name) ∧ w'.cell? ⟨(ad.add (i * 2)).block, (ad.add (i * 2)).off + 1, none⟩ = some (.slice Au us.length cu))) (by kernel_rfl) ?_ (fun hHeld => ?_)
      · ((try dsimp only); go_keep)
      refine wpAnyH_take (i := 0) (v := ?_) rfl (by kernel_rfl) (by kernel_rfl) (by kernel_rfl) (fun _ _ _ h => h) (Or.inl ⟨by rfl, ?_⟩) (by assumption) ?_
      rotate_left 1
      · first | (intro w hSw; (try dsimp only at hSw); go_simp; done) | (intro w hSw; (try dsimp only at hSw); go_simp; with_reducible rfl)
      try simp only [Act.put, List.setIfInBounds_toArray, List.set_cons_zero, List.set_cons_succ]
      refine wpAnyH_take (i := 2) (v := ?_) rfl (by kernel_rfl) (by kernel_rfl) (by kernel_rfl) (fun _ _ _ h => h) (Or.inl ⟨by rfl, ?_⟩) (by assumption) ?_
      rotate_left 1
      · first | (intro w hSw; (try dsimp only at hSw); go_simp; done) | (intro w hSw; (try dsimp only at hSw); go_simp; with_reducible rfl)
      try simp only [Act.put, List.setIfInBounds_toArray, List.set_cons_zero, List.set_cons_succ]
      refine wpAnyH_take (i := 3) (v := ?_) rfl (by kernel_rfl) (by kernel_rfl) (by kernel_rfl) (fun _ _ _ h => h) (Or.inl ⟨by rfl, ?_⟩) (by assumption) ?_
      rotate_left 1
      · first | (intro w hSw; (try dsimp only at hSw); go_simp; done) | (intro w hSw; (try dsimp only at hSw); go_simp; with_reducible rfl)
      try simp only [Act.put, List.setIfInBounds_toArray, List.set_cons_zero, List.set_cons_succ]
      refine wpAnyH_take (i := 4) (v := ?_) rfl (by kernel_rfl) (by kernel_rfl) (by kernel_rfl) (fun _ _ _ h => h) (Or.inl ⟨by rfl, ?_⟩) (by assumption) ?_
      rotate_left 1
      · first | (intro w hSw; (try dsimp only at hSw); go_simp; done) | (intro w hSw; (try dsimp only at hSw); go_simp; with_reducible rfl)
      try simp only [Act.put, List.setIfInBounds_toArray, List.set_cons_zero, List.set_cons_succ]
      refine wpAnyH_take (i := 5) (v := ?_) rfl (by kernel_rfl) (by kernel_rfl) (by kernel_rfl) (fun _ _ _ h => h) (Or.inl ⟨by rfl, ?_⟩) (by assumption) ?_
      rotate_left 1
      · first | (intro w hSw; (try dsimp only at hSw); go_simp; done) | (intro w hSw; (try dsimp only at hSw); go_simp; with_reducible rfl)
      try simp only [Act.put, List.setIfInBounds_toArray, List.set_cons_zero, List.set_cons_succ]
      refine wpAnyH_take (i := 6) (v := ?_) rfl (by kernel_rfl) (by kernel_rfl) (by kernel_rfl) (fun _ _ _ h => h) (Or.inl ⟨by rfl, ?_⟩) (by assumption) ?_
      rotate_left 1
      · first | (intro w hSw; (try dsimp only at hSw); go_simp; done) | (intro w hSw; (try dsimp only at hSw); go_simp; with_reducible rfl)
      try simp only [Act.put, List.setIfInBounds_toArray, List.set_cons_zero, List.set_cons_succ]
      refine wpAnyH_take (i := 7) (v := ?_) rfl (by kernel_rfl) (by kernel_rfl) (by kernel_rfl) (fun _ _ _ h => h) (Or.inl ⟨by rfl, ?_⟩) (by assumption) ?_
      rotate_left 1
      · first | (intro w hSw; (try dsimp only at hSw); go_simp; done) | (intro w hSw; (try dsimp only at hSw); go_simp; with_reducible rfl)
      try simp only [Act.put, List.setIfInBounds_toArray, List.set_cons_zero, List.set_cons_succ]
      refine wpAnyH_take (i := 9) (v := ?_) rfl (by kernel_rfl) (by kernel_rfl) (by kernel_rfl) (fun _ _ _ h => h) (Or.inl ⟨by rfl, ?_⟩) (by assumption) ?_
      rotate_left 1
      · first | (intro w hSw; (try dsimp only at hSw); go_simp; done) | (intro w hSw; (try dsimp only at hSw); go_simp; with_reducible rfl)
      try simp only [Act.put, List.setIfInBounds_toArray, List.set_cons_zero, List.set_cons_succ]
      refine wpAnyH_take (i := 10) (v := ?_) rfl (by kernel_rfl) (by kernel_rfl) (by kernel_rfl) (fun _ _ _ h => h) (Or.inl ⟨by rfl, ?_⟩) (by assumption) ?_
      rotate_left 1
      · first | (intro w hSw; (try dsimp only at hSw); go_simp; done) | (intro w hSw; (try dsimp only at hSw); go_simp; with_reducible rfl)
      try simp only [Act.put, List.setIfInBounds_toArray, List.set_cons_zero, List.set_cons_succ]
      refine wpAnyH_take (i := 11) (v := ?_) rfl (by kernel_rfl) (by kernel_rfl) (by kernel_rfl) (fun _ _ _ h => h) (Or.inl ⟨by rfl, ?_⟩) (by assumption) ?_
      rotate_left 1
      · first | (intro w hSw; (try dsimp only at hSw); go_simp; done) | (intro w hSw; (try dsimp only at hSw); go_simp; with_reducible rfl)
      try simp only [Act.put, List.setIfInBounds_toArray, List.set_cons_zero, List.set_cons_succ]
      refine wpAnyH_take (i := 12) (v := ?_) rfl (by kernel_rfl) (by kernel_rfl) (by kernel_rfl) (fun _ _ _ h => h) (Or.inl ⟨by rfl, ?_⟩) (by assumption) ?_
      rotate_left 1
      · first | (intro w hSw; (try dsimp only at hSw); go_simp; done) | (intro w hSw; (try dsimp only at hSw); go_simp; with_reducible rfl)
      try simp only [Act.put, List.setIfInBounds_toArray, List.set_cons_zero, List.set_cons_succ]
      refine wpAnyH_take (i := 13) (v := ?_) rfl (by kernel_rfl) (by kernel_rfl) (by kernel_rfl) (fun _ _ _ h => h) (Or.inl ⟨by rfl, ?_⟩) (by assumption) ?_
      rotate_left 1
      · first | (intro w hSw; (try dsimp only at hSw); go_simp; done) | (intro w hSw; (try dsimp only at hSw); go_simp; with_reducible rfl)
      try simp only [Act.put, List.setIfInBounds_toArray, List.set_cons_zero, List.set_cons_succ]
      refine wpAnyH_take (i := 14) (v := ?_) rfl (by kernel_rfl) (by kernel_rfl) (by kernel_rfl) (fun _ _ _ h => h) (Or.inl ⟨by rfl, ?_⟩) (by assumption) ?_
      rotate_left 1
      · first | (intro w hSw; (try dsimp only at hSw); go_simp; done) | (intro w hSw; (try dsimp only at hSw); go_simp; with_reducible rfl)
      try simp only [Act.put, List.setIfInBounds_toArray, List.set_cons_zero, List.set_cons_succ]
      refine wpAnyH_ready (rs := [1, 8]) (by kernel_rfl) (by simp) ?_
      refine AllReadyH.cons rfl (fun K hK => ?_) ?_
      · skip
        go_simp
        refine hK.out _ _ ?_ (fun hHeld => ?_)
        · ((try dsimp only); first | done | go_keep)
        clear hK K
        try simp only [Act.put, List.setIfInBounds_toArray, List.set_cons_zero, List.set_cons_succ]
        refine wpAnyH_ready (rs := [8]) (by kernel_rfl) (by simp) ?_
        refine AllReadyH.cons rfl (fun K hK => ?_) ?_
        · skip
          go_simp
          refine hK.out _ _ ?_ (fun hHeld => ?_)
          · ((try dsimp only); first | done | go_keep)
          clear hK K
          try simp only [Act.put, List.setIfInBounds_toArray, List.set_cons_zero, List.set_cons_succ]
          refine wpAnyH_ready (rs := [15]) (by kernel_rfl) (by simp) ?_
          refine AllReadyH.cons rfl (fun K hK => ?_) ?_
          · skip
            refine Kd.R_append_rows_step Kd.string (w0 := wr) wr.heap.size rfl (.tmp 21) (.tmp 27) 23 9 (.string ByteArray.empty) 16 rfl Try.underlying23 info9m rfl (by decide) (by decide) (.slice (some ⟨wr.heap.size, 0, none⟩) 0 0) [] us Au us.length cu (fun _ => True) (fun _ => False) rfl rfl HRe.out HCu.out (fun _ _ h => h) (fun _ h => h.elim) (fun _ _ => trivial) B0.out B0.out.size hLL ?_
            intro v3 w3 hR3 hb3 hg3 hat3
            rw [List.nil_append] at hR3
            obtain ⟨A3, c3, ev3⟩ := Kd.R_slice hR3
            subst ev3
            have R3 := Lib.hid hR3
            have B3 := Lib.hid hb3
            clear hR3 hb3 hg3 hat3
            have e1b := E1.out _ B3.out
            have e2b := E2.out _ B3.out
            have k1b := K1.out _ B3.out
            have k3b := K3.out _ B3.out
            have e1c : ∀ o, (w3.alloc o).cell? (ad.add (i * 2)) = some (.string name) := fun o => E1.out _ (B3.out.alloc B3.out.size o)
            have k3c : ∀ o, (w3.alloc o).cell? ⟨b3, 0, none⟩ = some (.slice Av Bk.length cv) := fun o => K3.out _ (B3.out.alloc B3.out.size o)
            have k1c : ∀ o, (w3.alloc o).cell? ⟨b1, 0, none⟩ = some (.slice (some ad) l.length c) := fun o => K1.out _ (B3.out.alloc B3.out.size o)
            refine hK.out _ _ ?_ (fun hHeld => ?_)
            · ((try dsimp only); first | done | go_keep)
            clear hK K
            try simp only [Act.put, List.setIfInBounds_toArray, List.set_cons_zero, List.set_cons_succ]
            refine wpAnyH_take (i := 16) (v := ?_) rfl (by kernel_rfl) (by kernel_rfl) (by kernel_rfl) (fun _ _ _ h => h) (Or.inl ⟨by rfl, ?_⟩) (by assumption) ?_
            rotate_left 1
            · first | (intro w hSw; (try dsimp only at hSw); go_simp; done) | (intro w hSw; (try dsimp only at hSw); go_simp; with_reducible rfl)
            try simp only [Act.put, List.setIfInBounds_toArray, List.set_cons_zero, List.set_cons_succ]
            refine wpAnyH_ready (rs := [17]) (by kernel_rfl) (by simp) ?_
            refine AllReadyH.cons rfl (fun K hK => ?_) ?_
            · skip
              go_simp
              refine hK.out _ _ ?_ (fun hHeld => ?_)
              · ((try dsimp only); first | done | go_keep)
              clear hK K
              try simp only [Act.put, List.setIfInBounds_toArray, List.set_cons_zero, List.set_cons_succ]
              refine wpAnyH_ready (rs := [18]) (by kernel_rfl) (by simp) ?_
              refine AllReadyH.cons rfl (fun K hK => ?_) ?_
              · skip
                refine Kd.R_append_step kV (w0 := w3) w.heap.size rfl (.tmp 14) (.tmp 30) 28 41 (.agg #[.string ByteArray.empty, .slice none 0 0]) 40 rfl Try.underlying28 info41 rfl (by decide) (by decide) (.slice Av Bk.length cv) Bk ((name, us) : Vo) [.string name, .slice A3 us.length c3] (fun k => k ≠ b1 ∧ k ≠ b2 ∧ k ≠ b3) (fun k => wr.heap.size ≤ k) rfl rfl (APP.out w3 A3 c3 R3.out B3.out).1 (APP.out w3 A3 c3 R3.out B3.out).2.1 (APP.out w3 A3 c3 R3.out B3.out).2.2.1 (APP.out w3 A3 c3 R3.out B3.out).2.2.2.1 (Below.refl _ _) (APP.out w3 A3 c3 R3.out B3.out).2.2.2.2 hLV ?_
                intro v5 w5 hR5 hb5 hg5 hat5
                obtain ⟨A5, c5, ev5⟩ := Kd.R_slice hR5
                subst ev5
                have R5 := Lib.hid hR5
                have G5 := Lib.hid hg5
                have B5 := Lib.hid hb5
                clear hR5 hg5 hb5 hat5
                have k3d : w5.cell? ⟨b3, 0, none⟩ = some (.slice Av Bk.length cv) := ((Only.of_grown G5.out).cell (World.block_lt_of_cell? _ _ k3b) NB3.out).trans k3b
                have k1d := ((Only.of_grown G5.out).cell (World.block_lt_of_cell? _ _ k1b) NB1.out).trans k1b
                have e1d := ((Only.of_grown G5.out).cell (World.block_lt_of_cell? _ _ e1b) NBA.out).trans e1b
                have e2d := ((Only.of_grown G5.out).cell (p := ⟨(ad.add (i * 2)).block, (ad.add (i * 2)).off + 1, none⟩) (World.block_lt_of_cell? _ _ e2b) NBA.out).trans e2b
                have s1 : ∀ u, (w5.setCell ⟨b3, 0, none⟩ u).cell? ⟨b1, 0, none⟩ = some (.slice (some ad) l.length c) := fun u => (((Only.refl w5 (fun k => k = b3)).setCell (p := ⟨b3, 0, none⟩) (fun _ => rfl) u).cell (World.block_lt_of_cell? _ _ k1d) N13.out).trans k1d
                have s2 : ∀ u, (w5.setCell ⟨b3, 0, none⟩ u).cell? (ad.add (i * 2)) = some (.string name) := fun u => (((Only.refl w5 (fun k => k = b3)).setCell (p := ⟨b3, 0, none⟩) (fun _ => rfl) u).cell (World.block_lt_of_cell? _ _ e1d) NA3.out).trans e1d
                have s3 : ∀ u, (w5.setCell ⟨b3, 0, none⟩ u).cell? ⟨(ad.add (i * 2)).block, (ad.add (i * 2)).off + 1, none⟩ = some (.slice Au us.length cu) := fun u => (((Only.refl w5 (fun k => k = b3)).setCell (p := ⟨b3, 0, none⟩) (fun _ => rfl) u).cell (p := ⟨(ad.add (i * 2)).block, (ad.add (i * 2)).off + 1, none⟩) (World.block_lt_of_cell? _ _ e2d) NA3.out).trans e2d
                have f3d : w5.frozen? ⟨b3, 0, none⟩ = false := ((Only.of_grown G5.out).frozen (World.block_lt_of_cell? _ _ k3b) NB3.out).trans (F3.out _ B3.out)
                refine hK.out _ _ ?_ (fun hHeld => ?_)
                · ((try dsimp only); first | done | go_keep)
                clear hK K
                try simp only [Act.put, List.setIfInBounds_toArray, List.set_cons_zero, List.set_cons_succ]
                refine wpAnyH_take (i := 19) (v := ?_) rfl (by kernel_rfl) (by kernel_rfl) (by kernel_rfl) (fun _ _ _ h => h) (Or.inl ⟨by rfl, ?_⟩) (by assumption) ?_
                rotate_left 1
                · first | (intro w hSw; (try dsimp only at hSw); go_simp; done) | (intro w hSw; (try dsimp only at hSw); go_simp; with_reducible rfl)
                try simp only [Act.put, List.setIfInBounds_toArray, List.set_cons_zero, List.set_cons_succ]
                refine wpAnyH_ready (rs := [20]) (by kernel_rfl) (by simp) ?_
                refine AllReadyH.cons rfl (fun K hK => ?_) ?_
                · skip
                  go_simp
                  refine hK.out _ _ ?_ (fun hHeld => ?_)
                  · ((try dsimp only); first | done | go_keep)
                  clear hK K
                  try simp only [Act.put, List.setIfInBounds_toArray, List.set_cons_zero, List.set_cons_succ]
                  refine wpAnyH_done (by kernel_rfl) ?_ _
                  have Y1 := Lib.hid (((G1.out.below B3.out G1.out.lt).keep (Only.of_grown G5.out) NB1.out).far (p := ⟨b3, 0, none⟩) N13.out (.slice A5 (Bk.length + 1) c5))
                  have Y2 := Lib.hid (((G2.out.below B3.out G2.out.lt).keep (Only.of_grown G5.out) (fun e => (R.out.1 b2 e.symm).2.1 rfl)).far (p := ⟨b3, 0, none⟩) (show b2 ≠ b3 by have := HBS.out; omega) (.slice A5 (Bk.length + 1) c5))
                  have y3 := ((G3.out.below B3.out G3.out.lt).keep (Only.of_grown G5.out) NB3.out)
                  have Y3 := Lib.hid (y3.set_ 0 (.slice A5 (Bk.length + 1) c5))
                  have R6 := Lib.hid (Kd.R_set R5.out (show w5.heap[b3]? = _ from y3) (by decide) 0 (.slice A5 (Bk.length + 1) c5))
                  have B6 := Lib.hid (show Below w.heap.size w (w5.setCell ⟨b3, 0, none⟩ (.slice A5 (Bk.length + 1) c5)) from
                    (B.out.trans (B3.out.mono B.out.size)).trans (B5.out.trans (((Only.refl w5 (fun k => k = b3)).setCell (p := ⟨b3, 0, none⟩) (fun _ => rfl) (.slice A5 (Bk.length + 1) c5)).below (B := w.heap.size) (by have h1 := B.out.size; have h2 := B3.out.size; have h3 := B5.out.size; omega) (fun k hk e => by have := HBS.out; omega))))
                  clear y3 s1 s2 s3 f3d k1d e1d e2d k3d e1c k3c k1c e1b e2b k1b k3b e1a e2a k1a k3a e1w e2w k1 k3
                  generalize w5.setCell ⟨b3, 0, none⟩ (.slice A5 (Bk.length + 1) c5) = w6 at *
                  go_wp2_with fail
                  go_roundg (gk - 1)
                  case measure => have := HI.out; omega
                  case rel => exact ⟨i + 1, Bk ++ [(name, us)], A5, c5, (by simp), ⟨by have := HI.out; omega, by rw [List.take_succ_eq_append_getElem hil, HBK.out, HLK.out]⟩, ⟨by have h := R6.out; first | exact h | (rw [List.length_append]; exact h)⟩, ⟨Y1.out⟩, ⟨Y2.out⟩, ⟨by have h := Y3.out; rw [List.length_append]; exact h⟩, ⟨B6.out⟩⟩
                exact AllReadyH.nil
              exact AllReadyH.nil
            exact AllReadyH.nil
          exact AllReadyH.nil
        exact AllReadyH.nil
      refine AllReadyH.cons rfl (fun K hK => ?_) ?_
      · skip
        go_simp
        refine hK.out _ _ ?_ (fun hHeld => ?_)
        · ((try dsimp only); first | done | go_keep)
        clear hK K
        try simp only [Act.put, List.setIfInBounds_toArray, List.set_cons_zero, List.set_cons_succ]
        refine wpAnyH_ready (rs := [1, 15]) (by kernel_rfl) (by simp) ?_
        refine AllReadyH.cons rfl (fun K hK => ?_) ?_
        · skip
          go_simp
          refine hK.out _ _ ?_ (fun hHeld => ?_)
          · ((try dsimp only); first | done | go_keep)
          clear hK K
          try simp only [Act.put, List.setIfInBounds_toArray, List.set_cons_zero, List.set_cons_succ]
          refine wpAnyH_ready (rs := [15]) (by kernel_rfl) (by simp) ?_
          refine AllReadyH.cons rfl (fun K hK => ?_) ?_
          · skip
            refine Kd.R_append_rows_step Kd.string (w0 := wr) wr.heap.size rfl (.tmp 21) (.tmp 27) 23 9 (.string ByteArray.empty) 16 rfl Try.underlying23 info9m rfl (by decide) (by decide) (.slice (some ⟨wr.heap.size, 0, none⟩) 0 0) [] us Au us.length cu (fun _ => True) (fun _ => False) rfl rfl HRe.out HCu.out (fun _ _ h => h) (fun _ h => h.elim) (fun _ _ => trivial) B0.out B0.out.size hLL ?_
            intro v3 w3 hR3 hb3 hg3 hat3
            rw [List.nil_append] at hR3
            obtain ⟨A3, c3, ev3⟩ := Kd.R_slice hR3
            subst ev3
            have R3 := Lib.hid hR3
            have B3 := Lib.hid hb3
            clear hR3 hb3 hg3 hat3
            have e1b := E1.out _ B3.out
            have e2b := E2.out _ B3.out
            have k1b := K1.out _ B3.out
            have k3b := K3.out _ B3.out
            have e1c : ∀ o, (w3.alloc o).cell? (ad.add (i * 2)) = some (.string name) := fun o => E1.out _ (B3.out.alloc B3.out.size o)
            have k3c : ∀ o, (w3.alloc o).cell? ⟨b3, 0, none⟩ = some (.slice Av Bk.length cv) := fun o => K3.out _ (B3.out.alloc B3.out.size o)
            have k1c : ∀ o, (w3.alloc o).cell? ⟨b1, 0, none⟩ = some (.slice (some ad) l.length c) := fun o => K1.out _ (B3.out.alloc B3.out.size o)
            refine hK.out _ _ ?_ (fun hHeld => ?_)
            · ((try dsimp only); first | done | go_keep)
            clear hK K
            try simp only [Act.put, List.setIfInBounds_toArray, List.set_cons_zero, List.set_cons_succ]
            refine wpAnyH_take (i := 16) (v := ?_) rfl (by kernel_rfl) (by kernel_rfl) (by kernel_rfl) (fun _ _ _ h => h) (Or.inl ⟨by rfl, ?_⟩) (by assumption) ?_
            rotate_left 1
            · first | (intro w hSw; (try dsimp only at hSw); go_simp; done) | (intro w hSw; (try dsimp only at hSw); go_simp; with_reducible rfl)
            try simp only [Act.put, List.setIfInBounds_toArray, List.set_cons_zero, List.set_cons_succ]
            refine wpAnyH_ready (rs := [17]) (by kernel_rfl) (by simp) ?_
            refine AllReadyH.cons rfl (fun K hK => ?_) ?_
            · skip
              go_simp
              refine hK.out _ _ ?_ (fun hHeld => ?_)
              · ((try dsimp only); first | done | go_keep)
              clear hK K
              try simp only [Act.put, List.setIfInBounds_toArray, List.set_cons_zero, List.set_cons_succ]
              refine wpAnyH_ready (rs := [18]) (by kernel_rfl) (by simp) ?_
              refine AllReadyH.cons rfl (fun K hK => ?_) ?_
              · skip
                refine Kd.R_append_step kV (w0 := w3) w.heap.size rfl (.tmp 14) (.tmp 30) 28 41 (.agg #[.string ByteArray.empty, .slice none 0 0]) 40 rfl Try.underlying28 info41 rfl (by decide) (by decide) (.slice Av Bk.length cv) Bk ((name, us) : Vo) [.string name, .slice A3 us.length c3] (fun k => k ≠ b1 ∧ k ≠ b2 ∧ k ≠ b3) (fun k => wr.heap.size ≤ k) rfl rfl (APP.out w3 A3 c3 R3.out B3.out).1 (APP.out w3 A3 c3 R3.out B3.out).2.1 (APP.out w3 A3 c3 R3.out B3.out).2.2.1 (APP.out w3 A3 c3 R3.out B3.out).2.2.2.1 (Below.refl _ _) (APP.out w3 A3 c3 R3.out B3.out).2.2.2.2 hLV ?_
                intro v5 w5 hR5 hb5 hg5 hat5
                obtain ⟨A5, c5, ev5⟩ := Kd.R_slice hR5
                subst ev5
                have R5 := Lib.hid hR5
                have G5 := Lib.hid hg5
                have B5 := Lib.hid hb5
                clear hR5 hg5 hb5 hat5
                have k3d : w5.cell? ⟨b3, 0, none⟩ = some (.slice Av Bk.length cv) := ((Only.of_grown G5.out).cell (World.block_lt_of_cell? _ _ k3b) NB3.out).trans k3b
                have k1d := ((Only.of_grown G5.out).cell (World.block_lt_of_cell? _ _ k1b) NB1.out).trans k1b
                have e1d := ((Only.of_grown G5.out).cell (World.block_lt_of_cell? _ _ e1b) NBA.out).trans e1b
                have e2d := ((Only.of_grown G5.out).cell (p := ⟨(ad.add (i * 2)).block, (ad.add (i * 2)).off + 1, none⟩) (World.block_lt_of_cell? _ _ e2b) NBA.out).trans e2b
                have s1 : ∀ u, (w5.setCell ⟨b3, 0, none⟩ u).cell? ⟨b1, 0, none⟩ = some (.slice (some ad) l.length c) := fun u => (((Only.refl w5 (fun k => k = b3)).setCell (p := ⟨b3, 0, none⟩) (fun _ => rfl) u).cell (World.block_lt_of_cell? _ _ k1d) N13.out).trans k1d
                have s2 : ∀ u, (w5.setCell ⟨b3, 0, none⟩ u).cell? (ad.add (i * 2)) = some (.string name) := fun u => (((Only.refl w5 (fun k => k = b3)).setCell (p := ⟨b3, 0, none⟩) (fun _ => rfl) u).cell (World.block_lt_of_cell? _ _ e1d) NA3.out).trans e1d
                have s3 : ∀ u, (w5.setCell ⟨b3, 0, none⟩ u).cell? ⟨(ad.add (i * 2)).block, (ad.add (i * 2)).off + 1, none⟩ = some (.slice Au us.length cu) := fun u => (((Only.refl w5 (fun k => k = b3)).setCell (p := ⟨b3, 0, none⟩) (fun _ => rfl) u).cell (p := ⟨(ad.add (i * 2)).block, (ad.add (i * 2)).off + 1, none⟩) (World.block_lt_of_cell? _ _ e2d) NA3.out).trans e2d
                have f3d : w5.frozen? ⟨b3, 0, none⟩ = false := ((Only.of_grown G5.out).frozen (World.block_lt_of_cell? _ _ k3b) NB3.out).trans (F3.out _ B3.out)
                refine hK.out _ _ ?_ (fun hHeld => ?_)
                · ((try dsimp only); first | done | go_keep)
                clear hK K
                try simp only [Act.put, List.setIfInBounds_toArray, List.set_cons_zero, List.set_cons_succ]
                refine wpAnyH_take (i := 19) (v := ?_) rfl (by kernel_rfl) (by kernel_rfl) (by kernel_rfl) (fun _ _ _ h => h) (Or.inl ⟨by rfl, ?_⟩) (by assumption) ?_
                rotate_left 1
                · first | (intro w hSw; (try dsimp only at hSw); go_simp; done) | (intro w hSw; (try dsimp only at hSw); go_simp; with_reducible rfl)
                try simp only [Act.put, List.setIfInBounds_toArray, List.set_cons_zero, List.set_cons_succ]
                refine wpAnyH_ready (rs := [20]) (by kernel_rfl) (by simp) ?_
                refine AllReadyH.cons rfl (fun K hK => ?_) ?_
                · skip
                  go_simp
                  refine hK.out _ _ ?_ (fun hHeld => ?_)
                  · ((try dsimp only); first | done | go_keep)
                  clear hK K
                  try simp only [Act.put, List.setIfInBounds_toArray, List.set_cons_zero, List.set_cons_succ]
                  refine wpAnyH_done (by kernel_rfl) ?_ _
                  have Y1 := Lib.hid (((G1.out.below B3.out G1.out.lt).keep (Only.of_grown G5.out) NB1.out).far (p := ⟨b3, 0, none⟩) N13.out (.slice A5 (Bk.length + 1) c5))
                  have Y2 := Lib.hid (((G2.out.below B3.out G2.out.lt).keep (Only.of_grown G5.out) (fun e => (R.out.1 b2 e.symm).2.1 rfl)).far (p := ⟨b3, 0, none⟩) (show b2 ≠ b3 by have := HBS.out; omega) (.slice A5 (Bk.length + 1) c5))
                  have y3 := ((G3.out.below B3.out G3.out.lt).keep (Only.of_grown G5.out) NB3.out)
                  have Y3 := Lib.hid (y3.set_ 0 (.slice A5 (Bk.length + 1) c5))
                  have R6 := Lib.hid (Kd.R_set R5.out (show w5.heap[b3]? = _ from y3) (by decide) 0 (.slice A5 (Bk.length + 1) c5))
                  have B6 := Lib.hid (show Below w.heap.size w (w5.setCell ⟨b3, 0, none⟩ (.slice A5 (Bk.length + 1) c5)) from
                    (B.out.trans (B3.out.mono B.out.size)).trans (B5.out.trans (((Only.refl w5 (fun k => k = b3)).setCell (p := ⟨b3, 0, none⟩) (fun _ => rfl) (.slice A5 (Bk.length + 1) c5)).below (B := w.heap.size) (by have h1 := B.out.size; have h2 := B3.out.size; have h3 := B5.out.size; omega) (fun k hk e => by have := HBS.out; omega))))
                  clear y3 s1 s2 s3 f3d k1d e1d e2d k3d e1c k3c k1c e1b e2b k1b k3b e1a e2a k1a k3a e1w e2w k1 k3
                  generalize w5.setCell ⟨b3, 0, none⟩ (.slice A5 (Bk.length + 1) c5) = w6 at *
                  go_wp2_with fail
                  go_roundg (gk - 1)
                  case measure => have := HI.out; omega
                  case rel => exact ⟨i + 1, Bk ++ [(name, us)], A5, c5, (by simp), ⟨by have := HI.out; omega, by rw [List.take_succ_eq_append_getElem hil, HBK.out, HLK.out]⟩, ⟨by have h := R6.out; first | exact h | (rw [List.length_append]; exact h)⟩, ⟨Y1.out⟩, ⟨Y2.out⟩, ⟨by have h := Y3.out; rw [List.length_append]; exact h⟩, ⟨B6.out⟩⟩
                exact AllReadyH.nil
              exact AllReadyH.nil
            exact AllReadyH.nil
          exact AllReadyH.nil
        refine AllReadyH.cons rfl (fun K hK => ?_) ?_
        · skip
          refine Kd.R_append_rows_step Kd.string (w0 := wr) wr.heap.size rfl (.tmp 21) (.tmp 27) 23 9 (.string ByteArray.empty) 16 rfl Try.underlying23 info9m rfl (by decide) (by decide) (.slice (some ⟨wr.heap.size, 0, none⟩) 0 0) [] us Au us.length cu (fun _ => True) (fun _ => False) rfl rfl HRe.out HCu.out (fun _ _ h => h) (fun _ h => h.elim) (fun _ _ => trivial) B0.out B0.out.size hLL ?_
          intro v3 w3 hR3 hb3 hg3 hat3
          rw [List.nil_append] at hR3
          obtain ⟨A3, c3, ev3⟩ := Kd.R_slice hR3
          subst ev3
          have R3 := Lib.hid hR3
          have B3 := Lib.hid hb3
          clear hR3 hb3 hg3 hat3
          have e1b := E1.out _ B3.out
          have e2b := E2.out _ B3.out
          have k1b := K1.out _ B3.out
          have k3b := K3.out _ B3.out
          have e1c : ∀ o, (w3.alloc o).cell? (ad.add (i * 2)) = some (.string name) := fun o => E1.out _ (B3.out.alloc B3.out.size o)
          have k3c : ∀ o, (w3.alloc o).cell? ⟨b3, 0, none⟩ = some (.slice Av Bk.length cv) := fun o => K3.out _ (B3.out.alloc B3.out.size o)
          have k1c : ∀ o, (w3.alloc o).cell? ⟨b1, 0, none⟩ = some (.slice (some ad) l.length c) := fun o => K1.out _ (B3.out.alloc B3.out.size o)
          refine hK.out _ _ ?_ (fun hHeld => ?_)
          · ((try dsimp only); first | done | go_keep)
          clear hK K
          try simp only [Act.put, List.setIfInBounds_toArray, List.set_cons_zero, List.set_cons_succ]
          refine wpAnyH_take (i := 16) (v := ?_) rfl (by kernel_rfl) (by kernel_rfl) (by kernel_rfl) (fun _ _ _ h => h) (Or.inl ⟨by rfl, ?_⟩) (by assumption) ?_
          rotate_left 1
          · first | (intro w hSw; (try dsimp only at hSw); go_simp; done) | (intro w hSw; (try dsimp only at hSw); go_simp; with_reducible rfl)
          try simp only [Act.put, List.setIfInBounds_toArray, List.set_cons_zero, List.set_cons_succ]
          refine wpAnyH_ready (rs := [1, 17]) (by kernel_rfl) (by simp) ?_
          refine AllReadyH.cons rfl (fun K hK => ?_) ?_
          · skip
            go_simp
            refine hK.out _ _ ?_ (fun hHeld => ?_)
            · ((try dsimp only); first | done | go_keep)
            clear hK K
            try simp only [Act.put, List.setIfInBounds_toArray, List.set_cons_zero, List.set_cons_succ]
            refine wpAnyH_ready (rs := [17]) (by kernel_rfl) (by simp) ?_
            refine AllReadyH.cons rfl (fun K hK => ?_) ?_
            · skip
              go_simp
              refine hK.out _ _ ?_ (fun hHeld => ?_)
              · ((try dsimp only); first | done | go_keep)
              clear hK K
              try simp only [Act.put, List.setIfInBounds_toArray, List.set_cons_zero, List.set_cons_succ]
              refine wpAnyH_ready (rs := [18]) (by kernel_rfl) (by simp) ?_
              refine AllReadyH.cons rfl (fun K hK => ?_) ?_
              · skip
                refine Kd.R_append_step kV (w0 := w3) w.heap.size rfl (.tmp 14) (.tmp 30) 28 41 (.agg #[.string ByteArray.empty, .slice none 0 0]) 40 rfl Try.underlying28 info41 rfl (by decide) (by decide) (.slice Av Bk.length cv) Bk ((name, us) : Vo) [.string name, .slice A3 us.length c3] (fun k => k ≠ b1 ∧ k ≠ b2 ∧ k ≠ b3) (fun k => wr.heap.size ≤ k) rfl rfl (APP.out w3 A3 c3 R3.out B3.out).1 (APP.out w3 A3 c3 R3.out B3.out).2.1 (APP.out w3 A3 c3 R3.out B3.out).2.2.1 (APP.out w3 A3 c3 R3.out B3.out).2.2.2.1 (Below.refl _ _) (APP.out w3 A3 c3 R3.out B3.out).2.2.2.2 hLV ?_
                intro v5 w5 hR5 hb5 hg5 hat5
                obtain ⟨A5, c5, ev5⟩ := Kd.R_slice hR5
                subst ev5
                have R5 := Lib.hid hR5
                have G5 := Lib.hid hg5
                have B5 := Lib.hid hb5
                clear hR5 hg5 hb5 hat5
                have k3d : w5.cell? ⟨b3, 0, none⟩ = some (.slice Av Bk.length cv) := ((Only.of_grown G5.out).cell (World.block_lt_of_cell? _ _ k3b) NB3.out).trans k3b
                have k1d := ((Only.of_grown G5.out).cell (World.block_lt_of_cell? _ _ k1b) NB1.out).trans k1b
                have e1d := ((Only.of_grown G5.out).cell (World.block_lt_of_cell? _ _ e1b) NBA.out).trans e1b
                have e2d := ((Only.of_grown G5.out).cell (p := ⟨(ad.add (i * 2)).block, (ad.add (i * 2)).off + 1, none⟩) (World.block_lt_of_cell? _ _ e2b) NBA.out).trans e2b
                have s1 : ∀ u, (w5.setCell ⟨b3, 0, none⟩ u).cell? ⟨b1, 0, none⟩ = some (.slice (some ad) l.length c) := fun u => (((Only.refl w5 (fun k => k = b3)).setCell (p := ⟨b3, 0, none⟩) (fun _ => rfl) u).cell (World.block_lt_of_cell? _ _ k1d) N13.out).trans k1d
                have s2 : ∀ u, (w5.setCell ⟨b3, 0, none⟩ u).cell? (ad.add (i * 2)) = some (.string name) := fun u => (((Only.refl w5 (fun k => k = b3)).setCell (p := ⟨b3, 0, none⟩) (fun _ => rfl) u).cell (World.block_lt_of_cell? _ _ e1d) NA3.out).trans e1d
                have s3 : ∀ u, (w5.setCell ⟨b3, 0, none⟩ u).cell? ⟨(ad.add (i * 2)).block, (ad.add (i * 2)).off + 1, none⟩ = some (.slice Au us.length cu) := fun u => (((Only.refl w5 (fun k => k = b3)).setCell (p := ⟨b3, 0, none⟩) (fun _ => rfl) u).cell (p := ⟨(ad.add (i * 2)).block, (ad.add (i * 2)).off + 1, none⟩) (World.block_lt_of_cell? _ _ e2d) NA3.out).trans e2d
                have f3d : w5.frozen? ⟨b3, 0, none⟩ = false := ((Only.of_grown G5.out).frozen (World.block_lt_of_cell? _ _ k3b) NB3.out).trans (F3.out _ B3.out)
                refine hK.out _ _ ?_ (fun hHeld => ?_)
                · ((try dsimp only); first | done | go_keep)
                clear hK K
                try simp only [Act.put, List.setIfInBounds_toArray, List.set_cons_zero, List.set_cons_succ]
                refine wpAnyH_take (i := 19) (v := ?_) rfl (by kernel_rfl) (by kernel_rfl) (by kernel_rfl) (fun _ _ _ h => h) (Or.inl ⟨by rfl, ?_⟩) (by assumption) ?_
                rotate_left 1
                · first | (intro w hSw; (try dsimp only at hSw); go_simp; done) | (intro w hSw; (try dsimp only at hSw); go_simp; with_reducible rfl)
                try simp only [Act.put, List.setIfInBounds_toArray, List.set_cons_zero, List.set_cons_succ]
                refine wpAnyH_ready (rs := [20]) (by kernel_rfl) (by simp) ?_
                refine AllReadyH.cons rfl (fun K hK => ?_) ?_
                · skip
                  go_simp
                  refine hK.out _ _ ?_ (fun hHeld => ?_)
                  · ((try dsimp only); first | done | go_keep)
                  clear hK K
                  try simp only [Act.put, List.setIfInBounds_toArray, List.set_cons_zero, List.set_cons_succ]
                  refine wpAnyH_done (by kernel_rfl) ?_ _
                  have Y1 := Lib.hid (((G1.out.below B3.out G1.out.lt).keep (Only.of_grown G5.out) NB1.out).far (p := ⟨b3, 0, none⟩) N13.out (.slice A5 (Bk.length + 1) c5))
                  have Y2 := Lib.hid (((G2.out.below B3.out G2.out.lt).keep (Only.of_grown G5.out) (fun e => (R.out.1 b2 e.symm).2.1 rfl)).far (p := ⟨b3, 0, none⟩) (show b2 ≠ b3 by have := HBS.out; omega) (.slice A5 (Bk.length + 1) c5))
                  have y3 := ((G3.out.below B3.out G3.out.lt).keep (Only.of_grown G5.out) NB3.out)
                  have Y3 := Lib.hid (y3.set_ 0 (.slice A5 (Bk.length + 1) c5))
                  have R6 := Lib.hid (Kd.R_set R5.out (show w5.heap[b3]? = _ from y3) (by decide) 0 (.slice A5 (Bk.length + 1) c5))
                  have B6 := Lib.hid (show Below w.heap.size w (w5.setCell ⟨b3, 0, none⟩ (.slice A5 (Bk.length + 1) c5)) from
                    (B.out.trans (B3.out.mono B.out.size)).trans (B5.out.trans (((Only.refl w5 (fun k => k = b3)).setCell (p := ⟨b3, 0, none⟩) (fun _ => rfl) (.slice A5 (Bk.length + 1) c5)).below (B := w.heap.size) (by have h1 := B.out.size; have h2 := B3.out.size; have h3 := B5.out.size; omega) (fun k hk e => by have := HBS.out; omega))))
                  clear y3 s1 s2 s3 f3d k1d e1d e2d k3d e1c k3c k1c e1b e2b k1b k3b e1a e2a k1a k3a e1w e2w k1 k3
                  generalize w5.setCell ⟨b3, 0, none⟩ (.slice A5 (Bk.length + 1) c5) = w6 at *
                  go_wp2_with fail
                  go_roundg (gk - 1)
                  case measure => have := HI.out; omega
                  case rel => exact ⟨i + 1, Bk ++ [(name, us)], A5, c5, (by simp), ⟨by have := HI.out; omega, by rw [List.take_succ_eq_append_getElem hil, HBK.out, HLK.out]⟩, ⟨by have h := R6.out; first | exact h | (rw [List.length_append]; exact h)⟩, ⟨Y1.out⟩, ⟨Y2.out⟩, ⟨by have h := Y3.out; rw [List.length_append]; exact h⟩, ⟨B6.out⟩⟩
                exact AllReadyH.nil
              exact AllReadyH.nil
            exact AllReadyH.nil
          refine AllReadyH.cons rfl (fun K hK => ?_) ?_
          · skip
            go_simp
            refine hK.out _ _ ?_ (fun hHeld => ?_)
            · ((try dsimp only); first | done | go_keep)
            clear hK K
            try simp only [Act.put, List.setIfInBounds_toArray, List.set_cons_zero, List.set_cons_succ]
            refine wpAnyH_ready (rs := [1]) (by kernel_rfl) (by simp) ?_
            refine AllReadyH.cons rfl (fun K hK => ?_) ?_
            · skip
              go_simp
              refine hK.out _ _ ?_ (fun hHeld => ?_)
              · ((try dsimp only); first | done | go_keep)
              clear hK K
              try simp only [Act.put, List.setIfInBounds_toArray, List.set_cons_zero, List.set_cons_succ]
              refine wpAnyH_ready (rs := [18]) (by kernel_rfl) (by simp) ?_
              refine AllReadyH.cons rfl (fun K hK => ?_) ?_
              · skip
                refine Kd.R_append_step kV (w0 := w3) w.heap.size rfl (.tmp 14) (.tmp 30) 28 41 (.agg #[.string ByteArray.empty, .slice none 0 0]) 40 rfl Try.underlying28 info41 rfl (by decide) (by decide) (.slice Av Bk.length cv) Bk ((name, us) : Vo) [.string name, .slice A3 us.length c3] (fun k => k ≠ b1 ∧ k ≠ b2 ∧ k ≠ b3) (fun k => wr.heap.size ≤ k) rfl rfl (APP.out w3 A3 c3 R3.out B3.out).1 (APP.out w3 A3 c3 R3.out B3.out).2.1 (APP.out w3 A3 c3 R3.out B3.out).2.2.1 (APP.out w3 A3 c3 R3.out B3.out).2.2.2.1 (Below.refl _ _) (APP.out w3 A3 c3 R3.out B3.out).2.2.2.2 hLV ?_
                intro v5 w5 hR5 hb5 hg5 hat5
                obtain ⟨A5, c5, ev5⟩ := Kd.R_slice hR5
                subst ev5
                have R5 := Lib.hid hR5
                have G5 := Lib.hid hg5
                have B5 := Lib.hid hb5
                clear hR5 hg5 hb5 hat5
                have k3d : w5.cell? ⟨b3, 0, none⟩ = some (.slice Av Bk.length cv) := ((Only.of_grown G5.out).cell (World.block_lt_of_cell? _ _ k3b) NB3.out).trans k3b
                have k1d := ((Only.of_grown G5.out).cell (World.block_lt_of_cell? _ _ k1b) NB1.out).trans k1b
                have e1d := ((Only.of_grown G5.out).cell (World.block_lt_of_cell? _ _ e1b) NBA.out).trans e1b
                have e2d := ((Only.of_grown G5.out).cell (p := ⟨(ad.add (i * 2)).block, (ad.add (i * 2)).off + 1, none⟩) (World.block_lt_of_cell? _ _ e2b) NBA.out).trans e2b
                have s1 : ∀ u, (w5.setCell ⟨b3, 0, none⟩ u).cell? ⟨b1, 0, none⟩ = some (.slice (some ad) l.length c) := fun u => (((Only.refl w5 (fun k => k = b3)).setCell (p := ⟨b3, 0, none⟩) (fun _ => rfl) u).cell (World.block_lt_of_cell? _ _ k1d) N13.out).trans k1d
                have s2 : ∀ u, (w5.setCell ⟨b3, 0, none⟩ u).cell? (ad.add (i * 2)) = some (.string name) := fun u => (((Only.refl w5 (fun k => k = b3)).setCell (p := ⟨b3, 0, none⟩) (fun _ => rfl) u).cell (World.block_lt_of_cell? _ _ e1d) NA3.out).trans e1d
                have s3 : ∀ u, (w5.setCell ⟨b3, 0, none⟩ u).cell? ⟨(ad.add (i * 2)).block, (ad.add (i * 2)).off + 1, none⟩ = some (.slice Au us.length cu) := fun u => (((Only.refl w5 (fun k => k = b3)).setCell (p := ⟨b3, 0, none⟩) (fun _ => rfl) u).cell (p := ⟨(ad.add (i * 2)).block, (ad.add (i * 2)).off + 1, none⟩) (World.block_lt_of_cell? _ _ e2d) NA3.out).trans e2d
                have f3d : w5.frozen? ⟨b3, 0, none⟩ = false := ((Only.of_grown G5.out).frozen (World.block_lt_of_cell? _ _ k3b) NB3.out).trans (F3.out _ B3.out)
                refine hK.out _ _ ?_ (fun hHeld => ?_)
                · ((try dsimp only); first | done | go_keep)
                clear hK K
                try simp only [Act.put, List.setIfInBounds_toArray, List.set_cons_zero, List.set_cons_succ]
                refine wpAnyH_take (i := 19) (v := ?_) rfl (by kernel_rfl) (by kernel_rfl) (by kernel_rfl) (fun _ _ _ h => h) (Or.inl ⟨by rfl, ?_⟩) (by assumption) ?_
                rotate_left 1
                · first | (intro w hSw; (try dsimp only at hSw); go_simp; done) | (intro w hSw; (try dsimp only at hSw); go_simp; with_reducible rfl)
                try simp only [Act.put, List.setIfInBounds_toArray, List.set_cons_zero, List.set_cons_succ]
                refine wpAnyH_ready (rs := [20]) (by kernel_rfl) (by simp) ?_
                refine AllReadyH.cons rfl (fun K hK => ?_) ?_
                · skip
                  go_simp
                  refine hK.out _ _ ?_ (fun hHeld => ?_)
                  · ((try dsimp only); first | done | go_keep)
                  clear hK K
                  try simp only [Act.put, List.setIfInBounds_toArray, List.set_cons_zero, List.set_cons_succ]
                  refine wpAnyH_done (by kernel_rfl) ?_ _
                  have Y1 := Lib.hid (((G1.out.below B3.out G1.out.lt).keep (Only.of_grown G5.out) NB1.out).far (p := ⟨b3, 0, none⟩) N13.out (.slice A5 (Bk.length + 1) c5))
                  have Y2 := Lib.hid (((G2.out.below B3.out G2.out.lt).keep (Only.of_grown G5.out) (fun e => (R.out.1 b2 e.symm).2.1 rfl)).far (p := ⟨b3, 0, none⟩) (show b2 ≠ b3 by have := HBS.out; omega) (.slice A5 (Bk.length + 1) c5))
                  have y3 := ((G3.out.below B3.out G3.out.lt).keep (Only.of_grown G5.out) NB3.out)
                  have Y3 := Lib.hid (y3.set_ 0 (.slice A5 (Bk.length + 1) c5))
                  have R6 := Lib.hid (Kd.R_set R5.out (show w5.heap[b3]? = _ from y3) (by decide) 0 (.slice A5 (Bk.length + 1) c5))
                  have B6 := Lib.hid (show Below w.heap.size w (w5.setCell ⟨b3, 0, none⟩ (.slice A5 (Bk.length + 1) c5)) from
                    (B.out.trans (B3.out.mono B.out.size)).trans (B5.out.trans (((Only.refl w5 (fun k => k = b3)).setCell (p := ⟨b3, 0, none⟩) (fun _ => rfl) (.slice A5 (Bk.length + 1) c5)).below (B := w.heap.size) (by have h1 := B.out.size; have h2 := B3.out.size; have h3 := B5.out.size; omega) (fun k hk e => by have := HBS.out; omega))))
                  clear y3 s1 s2 s3 f3d k1d e1d e2d k3d e1c k3c k1c e1b e2b k1b k3b e1a e2a k1a k3a e1w e2w k1 k3
                  generalize w5.setCell ⟨b3, 0, none⟩ (.slice A5 (Bk.length + 1) c5) = w6 at *
                  go_wp2_with fail
                  go_roundg (gk - 1)
                  case measure => have := HI.out; omega
                  case rel => exact ⟨i + 1, Bk ++ [(name, us)], A5, c5, (by simp), ⟨by have := HI.out; omega, by rw [List.take_succ_eq_append_getElem hil, HBK.out, HLK.out]⟩, ⟨by have h := R6.out; first | exact h | (rw [List.length_append]; exact h)⟩, ⟨Y1.out⟩, ⟨Y2.out⟩, ⟨by have h := Y3.out; rw [List.length_append]; exact h⟩, ⟨B6.out⟩⟩
                exact AllReadyH.nil
              exact AllReadyH.nil
            exact AllReadyH.nil
          exact AllReadyH.nil
        exact AllReadyH.nil
      exact AllReadyH.nil
    · have hii : ¬ (i : Int) < (l.length : Int) := by omega
      have hBl : Bk = l := by rw [← HBK.out, List.take_of_length_le (by omega)]
      subst hBl
      have k3 := G3.out.cell_at 0 _ rfl
      have k3' := G3.out.cell_at 1 _ rfl
      have k2 := G2.out.cell_at 0 _ rfl
      have k2' := G2.out.cell_at 1 _ rfl
      have f2 := G2.out.frozen 0
      have f2' := G2.out.frozen 1
      have k1' := G1.out.cell_at 1 _ rfl
      go_wp2_with fail
      obtain ⟨wq, hwq⟩ : ∃ wq, wq = wr := ⟨_, rfl⟩
      subst hwq
      go_loopg [5] 1 (fun mm jv wr => jv = .int .i64 0 ∧ wr = wq)
      case atStart => exact ⟨rfl, rfl⟩
      case round =>
        obtain ⟨rfl, hwz⟩ := hrel
        rw [hwz]
        clear hwz
        go_wp2_with fail
        have Y2 := ((G2.out.set_ 0 (.slice Av Bk.length cv)).set_ 1 (.slice none 0 0))
        have x0 := Y2.cell_at 0 _ rfl
        have x1 := Y2.cell_at 1 _ rfl
        have R7 := Kd.R_set (Kd.R_set R.out (show wq.heap[b2]? = _ from G2.out) (by decide) 0 (.slice Av Bk.length cv)) (show (wq.setCell ⟨b2, 0, none⟩ (.slice Av Bk.length cv)).heap[b2]? = _ from G2.out.set_ 0 (.slice Av Bk.length cv)) (by decide) 1 (.slice none 0 0)
        have B7 : Below w.heap.size w ((wq.setCell ⟨b2, 0, none⟩ (.slice Av Bk.length cv)).setCell ⟨b2, 1, none⟩ (.slice none 0 0)) :=
          B.out.trans ((((Only.refl wq (fun k => k = b2)).setCell (p := ⟨b2, 0, none⟩) (fun _ => rfl) (.slice Av Bk.length cv)).setCell (p := ⟨b2, 1, none⟩) (fun _ => rfl) (.slice none 0 0)).below (B := w.heap.size) B.out.size (fun k hk e => by have := HBS.out; omega))
        generalize (wq.setCell ⟨b2, 0, none⟩ (.slice Av Bk.length cv)).setCell ⟨b2, 1, none⟩ (.slice none 0 0) = w7 at *
        have hres : Try.f23.results = #[.cell 2 57] := by kernel_rfl
        refine bodyPost_ret (v := .agg #[.slice Av Bk.length cv, .slice none 0 0]) ?_ rfl ⟨_, _, rfl, Kd.R_mono R7 (fun _ _ => trivial), B7⟩
        first
          | (go_simp; done)
          | (simp [results, hres, asAddr, go_sem, x0, x1]; done)
end Go.Proofs.Ytlphpmdmlcphbaa.Or
