/-
  The contract of the reference's Read. (under way)
-/
import Derived.Test.YthbmbbbojpdlaaaRefReadA
namespace Go.Proofs.Ythbmbbbojpdlaaa
open Go.RowKit
attribute [local go_sem ↓] Go.wp_at_zero Go.wp_at_succ

set_option maxHeartbeats 2000000 in
set_option pp.deepTerms true in
set_option pp.maxSteps 100000 in
set_option maxRecDepth 100000 in
theorem ref23_Read (b : List UInt8) (w : World) (hb : b.length ≤ 100000) :
    Calls Try.prog 15 #[.string (str b)] w fun e w' => ∃ r : Rws, e = .returned (.tuple #[r.val (readRes b).1, .int .i64 (readRes b).2]) ∧
      snapE.Own w' w.heap.size (.slice r.A1 r.n1 r.c1) (readRes b).1.sn ∧ strE.Own w' w.heap.size (.slice r.A2 r.n2 r.c2) (readRes b).1.cs ∧ placeE.Own w' w.heap.size (.slice r.A3 r.n3 r.c3) (readRes b).1.ps ∧
      (∀ p ∈ (readRes b).1.ps, PlaceOk p) ∧ Below w.heap.size w w' := by
  have hsz : (str b).size = b.length := str_size b
  by_cases h13 : b.length < 13
  · have hres : Hid (readRes b = (stZero, 4)) := readRes_short h13
    have hg : decide ((b.length : Int) < 13) = true := by simp; omega
    have bz := BoxAt.new w 0 0 0 (.slice none 0 0) (.slice none 0 0) (.slice none 0 0)
    replace bz := Lib.hid bz
    replace h13 := Lib.hid h13
    go_enter Try.func15, Try.ntmps15
    go_wp2_with fail
    obtain ⟨t0, t1, t2, t3, t4, t5⟩ := bz.out.cells
    exact bodyPost_ret (v := .tuple #[.agg #[.int .i64 0, .int .i64 0, .int .i64 0, .slice none 0 0, .slice none 0 0, .slice none 0 0], .int .i64 4]) (by simp [results, Try.results15, go_sem]) rfl
      ⟨⟨none, 0, 0, none, 0, 0, none, 0, 0⟩, by rw [hres.out]; rfl, by rw [hres.out]; exact Owns.nil_, by rw [hres.out]; exact Owns.nil_, by rw [hres.out]; exact Owns.nil_, by rw [hres.out]; simp [stZero], (by repeat (first | exact Below.refl _ _ | assumption | refine Below.drew ?_ | refine below_drewN ?_ _ | refine Below.alloc ?_ (by first | omega | (simp; try omega)) _ | refine Below.setCell ?_ (by first | omega | (simp; try omega)) _ | (refine Below.trans ?_ (Below.mono (by assumption) (by first | omega | (simp; try omega))))))⟩
  · have hg : decide ((b.length : Int) < 13) = false := by simp; omega
    obtain ⟨K, hK⟩ := getElem_some (l := b) (i := 4) (by omega)
    obtain ⟨N, hN⟩ := getElem_some (l := b) (i := 5) (by omega)
    obtain ⟨C, hC⟩ := getElem_some (l := b) (i := 10) (by omega)
    have wK := byte_val K
    have wN := byte_val N
    have wC := byte_val C
    have gK := str_get hK
    have gN := str_get hN
    have gC := str_get hC
    have i4 : (4 : Int) < (b.length : Int) := by omega
    have i5 : (5 : Int) < (b.length : Int) := by omega
    have i10 : (10 : Int) < (b.length : Int) := by omega
    have hat := fun W => ref23_at b 6 4 W (by omega) (by omega) hb
    have hkn : Hid ((b.getD 4 0).toNat = K.toNat ∧ (b.getD 5 0).toNat = N.toNat ∧ rfC b = C.toNat) := by
      unfold Hid rfC
      simp [List.getD_eq_getElem?_getD, hK, hN, hC]
    obtain ⟨X, hX⟩ : ∃ X, X = svr ((b.drop 6).take 4) := ⟨_, rfl⟩
    rw [← hX] at hat
    replace hat := Lib.hid hat
    replace hX := Lib.hid hX
    replace hK := Lib.hid hK
    replace hN := Lib.hid hN
    replace hC := Lib.hid hC
    have bz := BoxAt.new w 0 0 0 (.slice none 0 0) (.slice none 0 0) (.slice none 0 0)
    have fz : Below w.heap.size w (w.alloc (.cells #[.int .i64 0, .int .i64 0, .int .i64 0, .slice none 0 0, .slice none 0 0, .slice none 0 0] 28)) := (Below.refl _ _).alloc (Nat.le_refl _) _
    have zz : (w.alloc (.cells #[.int .i64 0, .int .i64 0, .int .i64 0, .slice none 0 0, .slice none 0 0, .slice none 0 0] 28)).heap.size = w.heap.size + 1 := by simp
    go_enter Try.func15, Try.ntmps15
    go_upto_region 3 with fail
    generalize w.alloc (.cells #[.int .i64 0, .int .i64 0, .int .i64 0, .slice none 0 0, .slice none 0 0, .slice none 0 0] 28) = W0 at bz fz zz ⊢
    replace zz := Lib.hid zz
    replace bz := Lib.hid bz
    have hW0 : w.heap.size < W0.heap.size := by have := zz.out; omega
    go_cut [4] (fun v4 wc => ∃ b8, v4 = .pointer (some ⟨b8, 0, none⟩) ∧ RQ w wc b8 K.toNat N.toNat X (.slice none 0 0) (.slice none 0 0) (.slice none 0 0) [] [] [])
    case first =>
      go_region_held3 (fun _ : World => True) (trivial)
        ((go_at_call 49; refine (hat.out _).mono ?_; rintro e w1 ⟨rfl, hb1⟩; have hz1 := hb1.size; (try simp at hz1); (try (have bq := BoxAt.below (show BoxAt (W0.alloc (.cells #[.int .i64 0, .int .i64 0, .int .i64 0, .slice none 0 0, .slice none 0 0, .slice none 0 0] 28)).drew W0.heap.size 0 0 0 (.slice none 0 0) (.slice none 0 0) (.slice none 0 0) from BoxAt.new W0 0 0 0 (.slice none 0 0) (.slice none 0 0) (.slice none 0 0)) hb1; obtain ⟨r0, r1, r2, r3, r4, r5⟩ := bq.cells; have fr0 := bq.frozen 0; have fr1 := bq.frozen 1; have fr2 := bq.frozen 2; have fr3 := bq.frozen 3; have fr4 := bq.frozen 4; have fr5 := bq.frozen 5))))
      all_goals
        go_wp2_with fail
        go_meet
        refine ⟨_, rfl, ?_⟩
        first
        | (have bq' := bq; with_reducible exact RQ.new2 _ _ _ _ bz.out fz hb1 bq')
        | with_reducible exact RQ.new1 _ _ _ bz.out fz hb1
    case rest =>
      obtain ⟨b8, rfl, s4⟩ := hcut
      clear fz bz zz hW0 gK gN hat wK wN i4 i5
      obtain ⟨c, hc⟩ : ∃ c, c = C.toNat := ⟨_, rfl⟩
      have hc255 : c ≤ 255 := by have := C.toNat_lt; omega
      have hcI : (c : Int) ≤ 255 := by omega
      have wD : Value.int .i64 (wrap64 (C.toNat : Int)) = Value.int .i64 (c : Int) := by
        have := C.toNat_lt
        rw [hc]
        congr 1
        unfold wrap64
        omega
      have wE : Value.int .i64 (IntKind.i64.wrap (C.toNat : Int)) = Value.int .i64 (c : Int) := by rw [hc]; exact wC
      clear wC
      have hcC : Hid (rfC b = c) := by rw [hc]; exact hkn.out.2.2
      obtain ⟨L, hL⟩ : ∃ L, L = b.length := ⟨_, rfl⟩
      have hLI : (L : Int) ≤ 100000 := by omega
      rw [← hL] at i10 hsz
      obtain ⟨g0, g1, g2, g3, g4, g5⟩ := s4.z.cells
      have e0 := s4.z.frozen 0
      have e1 := s4.z.frozen 1
      have e2 := s4.z.frozen 2
      have e3 := s4.z.frozen 3
      have e4 := s4.z.frozen 4
      have e5 := s4.z.frozen 5
      by_cases h44 : L < 13 + 44 * c
      · have hres : Hid (readRes b = (stZero, 4)) := readRes_short2 (by rw [hcC.out, ← hL]; exact h44)
        have hg2 : decide ((L : Int) < 13 + 44 * (c : Int)) = true := by simp; omega
        replace s4 := Lib.hid s4
        replace hL := Lib.hid hL
        replace hc := Lib.hid hc
        clear h44
        go_wp2_with fail
        (obtain ⟨t0, t1, t2, t3, t4, t5⟩ := (BoxAt.set6 (s4.out.z) 0 0 0 (.slice none 0 0) (.slice none 0 0) (.slice none 0 0)).cells
         clear g0 g1 g2 g3 g4 g5
         exact bodyPost_ret (v := .tuple #[.agg #[.int .i64 0, .int .i64 0, .int .i64 0, .slice none 0 0, .slice none 0 0, .slice none 0 0], .int .i64 4]) (by simp [results, Try.results15, go_sem, t0, t1, t2, t3, t4, t5]) rfl
           ⟨⟨none, 0, 0, none, 0, 0, none, 0, 0⟩, by rw [hres.out]; rfl, by rw [hres.out]; exact Owns.nil_, by rw [hres.out]; exact Owns.nil_, by rw [hres.out]; exact Owns.nil_, by rw [hres.out]; simp [stZero], below_set6 (s4.out.below) (Nat.le_refl _) _ _ _ _ _ _⟩)
      · have hg2 : decide ((L : Int) < 13 + 44 * (c : Int)) = false := by simp; omega
        have h44' : 13 + 44 * c ≤ b.length := by omega
        clear g0 g1 g2 g3 g4 g5 e0 e1 e2 e3 e4 e5 h44
        replace s4 := Lib.hid s4
        replace hc := Lib.hid hc
        go_upto_block 0 with fail
        clear hg2 wD wE i10 gC
        go_cut [6, 7] (fun v6 _ wc => ∃ F : Nat, v6 = .int .i64 F ∧ Hid (F = 11 + 44 * c ∧ ∃ v4, RQ w wc b8 K.toNat N.toNat X v4 (.slice none 0 0) (.slice none 0 0) (rfSnaps c (b.drop 11) []) [] []))
        case first =>
          go_wp2_with fail
          go_loopw [6, 7] (fun f i wr => ∃ j F : Nat, j ≤ c ∧ i = .int .i64 j ∧ f = .int .i64 F ∧ Hid (F = 11 + 44 * j ∧ ∃ v4 sn, rfSnaps c (b.drop 11) [] = rfSnaps (c - j) (b.drop F) sn ∧ sn.length ≤ j ∧ RQ w wr b8 K.toNat N.toNat X v4 (.slice none 0 0) (.slice none 0 0) sn [] [])) (fun _ i _ => c - (intOf i).toNat)
          case atStart => exact ⟨0, 11, Nat.zero_le _, rfl, rfl, rfl, _, _, rfl, Nat.le_refl _, s4.out⟩
          case round =>
            obtain ⟨j, F, hj, rfl, rfl, hinv⟩ := hrel
            obtain ⟨hF, v4, sn, hres, hsl, s⟩ := hinv.out
            clear hinv s4
            by_cases hjm : j < c
            · obtain ⟨A4, c4, rfl⟩ := s.o4.form
              have hF44 : F + 44 ≤ b.length := by omega
              obtain ⟨i1, h1⟩ : ∃ x, x = svr ((b.drop F).take 4) := ⟨_, rfl⟩
              obtain ⟨t1, h2⟩ : ∃ x, x = svr (((b.drop F).drop 4).take 8) := ⟨_, rfl⟩
              obtain ⟨l3, h3⟩ : ∃ x, x = (((b.drop F).drop 12).take 32) := ⟨_, rfl⟩
              have hstep : Hid (rfSnaps c (b.drop 11) [] = rfSnaps (c - (j + 1)) (b.drop (F + 44)) (sn ++ [⟨i1, t1, str l3⟩])) := by
                unfold Hid
                rw [hres, show c - j = (c - (j + 1)) + 1 by omega, rfSnaps, List.drop_drop]
                unfold rfSnap
                rw [← h1, ← h2, ← h3]
              have hk1 : ∀ W, Calls Try.prog 49 #[.string (str b), .int .i64 F, .int .i64 4] W fun e w' => e = .returned (.int .i64 i1) ∧ Below W.heap.size W w' := fun W => by
                rw [h1]
                exact ref23_at b F 4 W (by omega) (by omega) hb
              have hk2 : ∀ W, Calls Try.prog 49 #[.string (str b), .int .i64 ((F : Int) + 4), .int .i64 8] W fun e w' => e = .returned (.int .i64 t1) ∧ Below W.heap.size W w' := fun W => by
                rw [h2, List.drop_drop]
                exact ref23_at b (F + 4) 8 W (by omega) (by omega) hb
              have z0 := s.bx.cells.2.2.2.1
              have hF1 : (F : Int) + 44 ≤ (L : Int) := by omega
              have hF2 : (F : Int) + 12 ≤ (F : Int) + 44 := by omega
              have hF3 : (0 : Int) ≤ (F : Int) + 12 := by omega
              have hjc : (j : Int) < (c : Int) := by omega
              have w4 : Hid (IntKind.i64.wrap ((F : Int) + 4) = (F : Int) + 4) := wrap_add (F := F) (k := 4) (by omega)
              have w12 : Hid (IntKind.i64.wrap ((F : Int) + 12) = ((F + 12 : Nat) : Int)) := wrap_add (F := F) (k := 12) (by omega)
              have w44 : Hid (IntKind.i64.wrap ((F : Int) + 44) = ((F + 44 : Nat) : Int)) := wrap_add (F := F) (k := 44) (by omega)
              have sd := s.drew
              have hsl2 : sn.length ≤ 255 := by omega
              have hbx := s.bx.lt
              replace sd := Lib.hid sd
              replace s := Lib.hid s
              replace hk1 := Lib.hid hk1
              replace hk2 := Lib.hid hk2
              replace hres := Lib.hid hres
              replace h1 := Lib.hid h1
              replace h2 := Lib.hid h2
              replace h3 := Lib.hid h3
              replace hF := Lib.hid hF
              replace hL := Lib.hid hL
              replace h44' := Lib.hid h44'
              go_wp2_with fail
              refine region_held_tail 18 (fun W : World => W.cell? ⟨b8, 3, none⟩ = some (.slice A4 sn.length c4)) (by kernel_rfl) (by kernel_rfl) ?_
              have hHeld : (fun W : World => W.cell? ⟨b8, 3, none⟩ = some (.slice A4 sn.length c4)) wr.drew := z0
              (refine HT.takeL (i := 0) (v := ?_) rfl (by kernel_rfl) (fun _ _ _ h => h) (Or.inl ⟨by rfl, ?_⟩) (by assumption) ?_
               rotate_left
               · (intro w hSw; (try dsimp only at hSw); go_simp; (try with_reducible rfl))
               try simp only [Act.put, List.setIfInBounds_toArray, List.set_cons_zero, List.set_cons_succ])
              (refine HT.takeL (i := 1) (v := ?_) rfl (by kernel_rfl) (fun _ _ _ h => h) (Or.inl ⟨by rfl, ?_⟩) (by assumption) ?_
               rotate_left
               · (intro w hSw; (try dsimp only at hSw); go_simp; (try with_reducible rfl))
               try simp only [Act.put, List.setIfInBounds_toArray, List.set_cons_zero, List.set_cons_succ])
              (refine HT.takeL (i := 2) (v := ?_) rfl (by kernel_rfl) (fun _ _ _ h => h) (Or.inl ⟨by rfl, ?_⟩) (by assumption) ?_
               rotate_left
               · (intro w hSw; (try dsimp only at hSw); go_simp; (try with_reducible rfl))
               try simp only [Act.put, List.setIfInBounds_toArray, List.set_cons_zero, List.set_cons_succ])
              (refine HT.takeL (i := 3) (v := ?_) rfl (by kernel_rfl) (fun _ _ _ h => h) (Or.inl ⟨by rfl, ?_⟩) (by assumption) ?_
               rotate_left
               · (intro w hSw; (try dsimp only at hSw); go_simp; (try with_reducible rfl))
               try simp only [Act.put, List.setIfInBounds_toArray, List.set_cons_zero, List.set_cons_succ])
              (refine HT.takeL (i := 5) (v := ?_) rfl (by kernel_rfl) (fun _ _ _ h => h) (Or.inl ⟨by rfl, ?_⟩) (by assumption) ?_
               rotate_left
               · (intro w hSw; (try dsimp only at hSw); go_simp; (try with_reducible rfl))
               try simp only [Act.put, List.setIfInBounds_toArray, List.set_cons_zero, List.set_cons_succ])
              (refine HT.takeL (i := 6) (v := ?_) rfl (by kernel_rfl) (fun _ _ _ h => h) (Or.inl ⟨by rfl, ?_⟩) (by assumption) ?_
               rotate_left
               · (intro w hSw; (try dsimp only at hSw); go_simp; (try with_reducible rfl))
               try simp only [Act.put, List.setIfInBounds_toArray, List.set_cons_zero, List.set_cons_succ])
              (refine HT.takeL (i := 7) (v := .int .i64 ((F : Int) + 4)) rfl (by kernel_rfl) (fun _ _ _ h => h) (Or.inl ⟨by rfl, ?_⟩) (by assumption) ?_
               · (intro w hSw; (try dsimp only at hSw); go_simp; (simp only [w4.out]))
               try simp only [Act.put, List.setIfInBounds_toArray, List.set_cons_zero, List.set_cons_succ])
              (refine HT.takeL (i := 9) (v := ?_) rfl (by kernel_rfl) (fun _ _ _ h => h) (Or.inl ⟨by rfl, ?_⟩) (by assumption) ?_
               rotate_left
               · (intro w hSw; (try dsimp only at hSw); go_simp; (try with_reducible rfl))
               try simp only [Act.put, List.setIfInBounds_toArray, List.set_cons_zero, List.set_cons_succ])
              (refine HT.takeL (i := 10) (v := ?_) rfl (by kernel_rfl) (fun _ _ _ h => h) (Or.inl ⟨by rfl, ?_⟩) (by assumption) ?_
               rotate_left
               · (intro w hSw; (try dsimp only at hSw); go_simp; (try with_reducible rfl))
               try simp only [Act.put, List.setIfInBounds_toArray, List.set_cons_zero, List.set_cons_succ])
              (refine HT.takeL (i := 11) (v := ?_) rfl (by kernel_rfl) (fun _ _ _ h => h) (Or.inl ⟨by rfl, ?_⟩) (by assumption) ?_
               rotate_left
               · (intro w hSw; (try dsimp only at hSw); go_simp; (try with_reducible rfl))
               try simp only [Act.put, List.setIfInBounds_toArray, List.set_cons_zero, List.set_cons_succ])
              (refine HT.takeL (i := 12) (v := ?_) rfl (by kernel_rfl) (fun _ _ _ h => h) (Or.inl ⟨by rfl, ?_⟩) (by assumption) ?_
               rotate_left
               · (intro w hSw; (try dsimp only at hSw); go_simp; (try with_reducible rfl))
               try simp only [Act.put, List.setIfInBounds_toArray, List.set_cons_zero, List.set_cons_succ])
              (refine HT.takeL (i := 13) (v := ?_) rfl (by kernel_rfl) (fun _ _ _ h => h) (Or.inl ⟨by rfl, ?_⟩) (by assumption) ?_
               rotate_left
               · (intro w hSw; (try dsimp only at hSw); go_simp; (try with_reducible rfl))
               try simp only [Act.put, List.setIfInBounds_toArray, List.set_cons_zero, List.set_cons_succ])
              (refine HT.takeL (i := 14) (v := .string (str l3)) rfl (by kernel_rfl) (fun _ _ _ h => h) (Or.inl ⟨by rfl, ?_⟩) (by assumption) ?_
               · (intro w hSw; (try dsimp only at hSw); go_simp; (exact slice_part (fun z => Result.ok (Next.value (Value.string z)) w) w12.out w44.out (m := 32) (by omega) (by omega) (by rw [h3.out, List.drop_drop])))
               try simp only [Act.put, List.setIfInBounds_toArray, List.set_cons_zero, List.set_cons_succ])
              (refine HT.onlyL (i := 4) rfl (by kernel_rfl) (fun K hK => ?_)
               (go_simp; (refine (hk1.out _).mono ?_; rintro e w1 ⟨rfl, hb1⟩; have s1 := sd.out.to hb1; have z1 := s1.bx.cells.2.2.2.1; have hz1 := s1.bx.lt))
               refine hK.out _ _ ?_ (fun hHeld => ?_)
               · (exact z1)
               clear hK K
               try simp only [Act.put, List.setIfInBounds_toArray, List.set_cons_zero, List.set_cons_succ])
              (refine HT.onlyL (i := 8) rfl (by kernel_rfl) (fun K hK => ?_)
               (go_simp; (refine (hk2.out _).mono ?_; rintro e w2 ⟨rfl, hb2⟩; have s2 := s1.to hb2; have z2 := s2.bx.cells.2.2.2.1; have hz2 := s2.bx.lt))
               refine hK.out _ _ ?_ (fun hHeld => ?_)
               · (exact z2)
               clear hK K
               try simp only [Act.put, List.setIfInBounds_toArray, List.set_cons_zero, List.set_cons_succ])
              (refine HT.takeL (i := 15) (v := ?_) rfl (by kernel_rfl) (fun _ _ _ h => h) (Or.inl ⟨by rfl, ?_⟩) (by assumption) ?_
               rotate_left
               · (intro w hSw; (try dsimp only at hSw); go_simp; (try with_reducible rfl))
               try simp only [Act.put, List.setIfInBounds_toArray, List.set_cons_zero, List.set_cons_succ])
              (refine HT.onlyL (i := 16) rfl (by kernel_rfl) (fun K hK => ?_)
               go_simp
               refine hK.out _ _ ?_ (fun hHeld => ?_)
               · (exact (s2.alloc _).bx.cells.2.2.2.1)
               clear hK K
               try simp only [Act.put, List.setIfInBounds_toArray, List.set_cons_zero, List.set_cons_succ])
              (refine HT.onlyL (i := 17) rfl (by kernel_rfl) (fun K hK => ?_)
               (refine Elem.step_one snapE (by rfl) (.tmp 42) (.tmp 57) (by rfl) (b8 + 1) (.slice A4 sn.length c4) sn (by rfl) _ _ ⟨i1, t1, str l3⟩ (by rfl) (by exact (s2.alloc _).o4) (by intro j u hu; rcases j with _ | _ | _ | j <;> simp [snapE, Snap.cells] at hu <;> subst hu <;> go_simp) (by omega) (by first | omega | (simp; try omega)) ?_; intro v5 w5 hown hg hat; obtain ⟨A5, c5, rfl⟩ := hown.form; have bx5 := (s2.alloc _).bx.grown hg (s2.o4.ne_some (by omega)); have z5 := bx5.cells.2.2.2.1; have fz5 := bx5.frozen 3; have s5 := (s2.alloc _).grow4 hown hg hat)
               refine hK.out _ _ ?_ (fun hHeld => ?_)
               · (exact z5)
               clear hK K
               try simp only [Act.put, List.setIfInBounds_toArray, List.set_cons_zero, List.set_cons_succ])
              refine HT.tail (by kernel_rfl) ?_
              simp only [List.drop_succ_cons, List.drop_zero]
              replace s5 := Lib.hid s5
              clear hg hat hown
              go_wp2_with fail
              go_roundw
              case rel => exact ⟨j + 1, F + 44, by omega, by go_num, by go_num, ⟨by have := hF.out; omega, _, _, hstep.out, by simp; omega, by have := s5.out; simp only [List.length_append, List.length_cons, List.length_nil, Nat.zero_add] at this; exact this⟩⟩
              case measure => simp [intOf]; omega
            · obtain rfl : j = c := by omega
              have hdone : Hid (rfSnaps j (b.drop 11) [] = sn) := by
                unfold Hid
                rw [hres, Nat.sub_self, rfSnaps]
              have hjc : ¬ (j : Int) < (j : Int) := by omega
              replace s := Lib.hid s
              replace hres := Lib.hid hres
              replace hF := Lib.hid hF
              go_wp2_with fail
              go_meet
              exact ⟨_, rfl, hF.out, _, by rw [hdone.out]; exact s.out⟩
        case rest =>
          obtain ⟨F, rfl, hF, v4, s6⟩ := hcut
          clear s4
          obtain ⟨sn, hsn⟩ : ∃ sn, sn = rfSnaps c (b.drop 11) [] := ⟨_, rfl⟩
          have hsl : sn.length ≤ 255 := by rw [hsn, rfSnaps_len]; simp; omega
          rw [← hsn] at s6
          obtain ⟨A4, c4, rfl⟩ := s6.o4.form
          obtain ⟨m, hm⟩ : ∃ m, m = rfM b := ⟨_, rfl⟩
          have hmv : m = val ((b.drop F).take 2) := by rw [hm, rfM, hcC.out, hF]
          have hm2 : m < 65536 := by
            have h1 := val_lt ((b.drop F).take 2)
            have h2 : ((b.drop F).take 2).length = 2 := by simp; omega
            rw [h2] at h1
            omega
          have hk : ∀ W, Calls Try.prog 49 #[.string (str b), .int .i64 F, .int .i64 2] W fun e w' => e = .returned (.int .i64 m) ∧ Below W.heap.size W w' := fun W => by
            have := ref23_at b F 2 W (by omega) (by omega) hb
            rw [svr, ← hmv, if_pos (by omega)] at this
            exact this
          have hm3 : (m : Int) ≤ 65535 := by omega
          have hF9 : (F : Int) + 2 ≤ (L : Int) := by omega
          replace s6 := Lib.hid s6
          replace hmv := Lib.hid hmv
          replace hm := Lib.hid hm
          replace hsn := Lib.hid hsn
          replace hF := Lib.hid hF
          replace hL := Lib.hid hL
          replace hk := Lib.hid hk
          go_wp2_with fail
          refine (hk.out _).mono ?_
          rintro e w8 ⟨rfl, hb8⟩
          have hz8 := hb8.size
          go_upto_region 15 with fail
          have s8 := s6.out.to hb8
          clear hk hz8 hb8 s6
          obtain ⟨g0, g1, g2, g3, g4, g5⟩ := s8.z.cells
          have e0 := s8.z.frozen 0
          have e1 := s8.z.frozen 1
          have e2 := s8.z.frozen 2
          have e3 := s8.z.frozen 3
          have e4 := s8.z.frozen 4
          have e5 := s8.z.frozen 5
          by_cases hlen : L = F + 2 + 72 * m
          · have hg3 : ((L : Int) == (F : Int) + 2 + 72 * (m : Int)) = true := by simp; omega
            replace s8 := Lib.hid s8
            replace hlen := Lib.hid hlen
            clear g0 g1 g2 g3 g4 g5 e0 e1 e2 e3 e4 e5
            go_upto_block 2 with fail
            clear hg3
            generalize ((L : Int) != (F : Int) + 2 + 72 * (m : Int)) = q3
            go_cut [6, 9] (fun f6 f9 wc => ∃ F6 F9 : Nat, f6 = .int .i64 F6 ∧ f9 = .int .i64 F9 ∧ Hid (∃ v5 v6, RQ w wc b8 K.toNat N.toNat X (.slice A4 sn.length c4) v5 v6 sn (rfChunks m (b.drop (F + 2)) [] []).1 (rfChunks m (b.drop (F + 2)) [] []).2))
            case first =>
              go_wp2_with fail
              go_loopw [6, 9] (fun f i wr => ∃ j F2 : Nat, j ≤ m ∧ i = .int .i64 j ∧ f = .int .i64 F2 ∧ Hid (F2 = F + 2 + 72 * j ∧ ∃ v5 v6 cs ps, rfChunks m (b.drop (F + 2)) [] [] = rfChunks (m - j) (b.drop F2) cs ps ∧ cs.length ≤ j ∧ ps.length ≤ j ∧ RQ w wr b8 K.toNat N.toNat X (.slice A4 sn.length c4) v5 v6 sn cs ps)) (fun _ i _ => m - (intOf i).toNat)
              case atStart => exact ⟨0, F + 2, Nat.zero_le _, rfl, rfl, rfl, _, _, _, _, rfl, Nat.le_refl _, Nat.le_refl _, s8.out⟩
              case round =>
                obtain ⟨j, F2, hj, rfl, rfl, hinv⟩ := hrel
                obtain ⟨hF2, v5, v6, cs, ps, hres, hcl, hpl, s⟩ := hinv.out
                clear hinv s8
                by_cases hjm : j < m
                · obtain ⟨A5, c5, rfl⟩ := s.o5.form
                  obtain ⟨A6, c6, rfl⟩ := s.o6.form
                  have hF72 : F2 + 72 ≤ b.length := by have := hlen.out; have := hL.out; omega
                  obtain ⟨l1, h1⟩ : ∃ x, x = ((b.drop F2).take 32) := ⟨_, rfl⟩
                  obtain ⟨l2, h2⟩ : ∃ x, x = (((b.drop F2).drop 32).take 32) := ⟨_, rfl⟩
                  obtain ⟨i3, h3⟩ : ∃ x, x = svr (((b.drop F2).drop 64).take 4) := ⟨_, rfl⟩
                  obtain ⟨i4, h4⟩ : ∃ x, x = svr (((b.drop F2).drop 68).take 4) := ⟨_, rfl⟩
                  have hstep : Hid (rfChunks m (b.drop (F + 2)) [] [] = rfChunks (m - (j + 1)) (b.drop (F2 + 72)) (cs ++ [str l1]) (ps ++ [⟨str l2, i3, i4⟩])) := by
                    unfold Hid
                    rw [hres, show m - j = (m - (j + 1)) + 1 by omega, rfChunks, List.drop_drop]
                    unfold rfPlace
                    rw [← h1, ← h2, ← h3, ← h4]
                  have hk1 : ∀ W, Calls Try.prog 49 #[.string (str b), .int .i64 ((F2 : Int) + 64), .int .i64 4] W fun e w' => e = .returned (.int .i64 i3) ∧ Below W.heap.size W w' := fun W => by
                    rw [h3, List.drop_drop]
                    exact ref23_at b (F2 + 64) 4 W (by omega) (by omega) hb
                  have hk2 : ∀ W, Calls Try.prog 49 #[.string (str b), .int .i64 ((F2 : Int) + 68), .int .i64 4] W fun e w' => e = .returned (.int .i64 i4) ∧ Below W.heap.size W w' := fun W => by
                    rw [h4, List.drop_drop]
                    exact ref23_at b (F2 + 68) 4 W (by omega) (by omega) hb
                  have z0 := s.bx.cells.2.2.2.2.1
                  have hF1 : (F2 : Int) + 72 ≤ (L : Int) := by have := hL.out; omega
                  have hjc : (j : Int) < (m : Int) := by omega
                  have w32 : Hid (IntKind.i64.wrap ((F2 : Int) + 32) = ((F2 + 32 : Nat) : Int)) := wrap_add (F := F2) (k := 32) (by omega)
                  have w64 : Hid (IntKind.i64.wrap ((F2 : Int) + 64) = ((F2 + 64 : Nat) : Int)) := wrap_add (F := F2) (k := 64) (by omega)
                  have x64 : Hid (IntKind.i64.wrap ((F2 : Int) + 64) = (F2 : Int) + 64) := wrap_add (F := F2) (k := 64) (by omega)
                  have x68 : Hid (IntKind.i64.wrap ((F2 : Int) + 68) = (F2 : Int) + 68) := wrap_add (F := F2) (k := 68) (by omega)
                  have sd := s.drew
                  have hcl2 : cs.length ≤ 65535 := by omega
                  have hpl2 : ps.length ≤ 65535 := by omega
                  have hbx := s.bx.lt
                  have hFL : F2 + 72 ≤ L := by omega
                  replace sd := Lib.hid sd
                  replace s := Lib.hid s
                  replace hk1 := Lib.hid hk1
                  replace hk2 := Lib.hid hk2
                  replace hres := Lib.hid hres
                  replace h1 := Lib.hid h1
                  replace h2 := Lib.hid h2
                  replace h3 := Lib.hid h3
                  replace h4 := Lib.hid h4
                  replace hF2 := Lib.hid hF2
                  replace hFL := Lib.hid hFL
                  replace h44' := Lib.hid h44'
                  go_wp2_with fail
                  refine region_held_tail 9 (fun W : World => W.cell? ⟨b8, 4, none⟩ = some (.slice A5 cs.length c5)) (by kernel_rfl) (by kernel_rfl) ?_
                  have hHeld : (fun W : World => W.cell? ⟨b8, 4, none⟩ = some (.slice A5 cs.length c5)) wr.drew := z0
                  (refine HT.takeL (i := 0) (v := ?_) rfl (by kernel_rfl) (fun _ _ _ h => h) (Or.inl ⟨by rfl, ?_⟩) (by assumption) ?_
                   rotate_left
                   · (intro w hSw; (try dsimp only at hSw); go_simp; (try with_reducible rfl))
                   try simp only [Act.put, List.setIfInBounds_toArray, List.set_cons_zero, List.set_cons_succ])
                  (refine HT.takeL (i := 1) (v := ?_) rfl (by kernel_rfl) (fun _ _ _ h => h) (Or.inl ⟨by rfl, ?_⟩) (by assumption) ?_
                   rotate_left
                   · (intro w hSw; (try dsimp only at hSw); go_simp; (try with_reducible rfl))
                   try simp only [Act.put, List.setIfInBounds_toArray, List.set_cons_zero, List.set_cons_succ])
                  (refine HT.takeL (i := 2) (v := ?_) rfl (by kernel_rfl) (fun _ _ _ h => h) (Or.inl ⟨by rfl, ?_⟩) (by assumption) ?_
                   rotate_left
                   · (intro w hSw; (try dsimp only at hSw); go_simp; (try with_reducible rfl))
                   try simp only [Act.put, List.setIfInBounds_toArray, List.set_cons_zero, List.set_cons_succ])
                  (refine HT.takeL (i := 3) (v := ?_) rfl (by kernel_rfl) (fun _ _ _ h => h) (Or.inl ⟨by rfl, ?_⟩) (by assumption) ?_
                   rotate_left
                   · (intro w hSw; (try dsimp only at hSw); go_simp; (try with_reducible rfl))
                   try simp only [Act.put, List.setIfInBounds_toArray, List.set_cons_zero, List.set_cons_succ])
                  (refine HT.takeL (i := 4) (v := ?_) rfl (by kernel_rfl) (fun _ _ _ h => h) (Or.inl ⟨by rfl, ?_⟩) (by assumption) ?_
                   rotate_left
                   · (intro w hSw; (try dsimp only at hSw); go_simp; (try with_reducible rfl))
                   try simp only [Act.put, List.setIfInBounds_toArray, List.set_cons_zero, List.set_cons_succ])
                  (refine HT.takeL (i := 5) (v := ?_) rfl (by kernel_rfl) (fun _ _ _ h => h) (Or.inl ⟨by rfl, ?_⟩) (by assumption) ?_
                   rotate_left
                   · (intro w hSw; (try dsimp only at hSw); go_simp; (try with_reducible rfl))
                   try simp only [Act.put, List.setIfInBounds_toArray, List.set_cons_zero, List.set_cons_succ])
                  (refine HT.takeL (i := 6) (v := .string (str l1)) rfl (by kernel_rfl) (fun _ _ _ h => h) (Or.inl ⟨by rfl, ?_⟩) (by assumption) ?_
                   · (intro w hSw; (try dsimp only at hSw); go_simp; (exact slice_part0 (fun z => Result.ok (Next.value (Value.string z)) w) w32.out (m := 32) (by omega) (by have := hFL.out; omega) (by rw [h1.out])))
                   try simp only [Act.put, List.setIfInBounds_toArray, List.set_cons_zero, List.set_cons_succ])
                  (refine HT.onlyL (i := 7) rfl (by kernel_rfl) (fun K hK => ?_)
                   go_simp
                   refine hK.out _ _ ?_ (fun hHeld => ?_)
                   · (exact (sd.out.alloc _).bx.cells.2.2.2.2.1)
                   clear hK K
                   try simp only [Act.put, List.setIfInBounds_toArray, List.set_cons_zero, List.set_cons_succ])
                  (refine HT.onlyL (i := 8) rfl (by kernel_rfl) (fun K hK => ?_)
                   (refine Elem.step_one strE (by rfl) (.tmp 81) (.tmp 87) (by rfl) (b8 + 1) (.slice A5 cs.length c5) cs (by rfl) _ _ (str l1) (by rfl) (by exact (sd.out.alloc _).o5) (by intro j u hu; rcases j with _ | j <;> simp [strE, strCell] at hu <;> subst hu <;> go_simp) (by omega) (by first | omega | (simp; try omega)) ?_; intro v7 w7 hown hg hat; obtain ⟨A7, c7, rfl⟩ := hown.form; have bx7 := (sd.out.alloc _).bx.grown hg (s.out.o5.ne_some (by omega)); have z7 := bx7.cells.2.2.2.2.1; have fz7 := bx7.frozen 4; have s7 := (sd.out.alloc _).grow5 hown hg hat)
                   refine hK.out _ _ ?_ (fun hHeld => ?_)
                   · (exact z7)
                   clear hK K
                   try simp only [Act.put, List.setIfInBounds_toArray, List.set_cons_zero, List.set_cons_succ])
                  refine HT.tail (by kernel_rfl) ?_
                  simp only [List.drop_succ_cons, List.drop_zero]
                  clear hg hat hown z0 hHeld bx7
                  have hlen7 : (cs ++ [str l1]).length = cs.length + 1 := by simp
                  rw [hlen7] at s7
                  replace s7 := Lib.hid s7
                  go_upto_region 21 with fail
                  generalize w7.setCell ⟨b8, 4, none⟩ (.slice A7 (cs.length + 1) c7) = wq at s7 ⊢
                  clear z7 fz7 hlen7 s sd
                  have sd := Lib.hid s7.out.drew
                  have z0 := s7.out.bx.cells.2.2.2.2.2
                  have hbx2 := s7.out.bx.lt
                  refine region_held_tail 19 (fun W : World => W.cell? ⟨b8, 5, none⟩ = some (.slice A6 ps.length c6)) (by kernel_rfl) (by kernel_rfl) ?_
                  have hHeld : (fun W : World => W.cell? ⟨b8, 5, none⟩ = some (.slice A6 ps.length c6)) wq.drew := z0
                  (refine HT.takeL (i := 0) (v := ?_) rfl (by kernel_rfl) (fun _ _ _ h => h) (Or.inl ⟨by rfl, ?_⟩) (by assumption) ?_
                   rotate_left
                   · (intro w hSw; (try dsimp only at hSw); go_simp; (try with_reducible rfl))
                   try simp only [Act.put, List.setIfInBounds_toArray, List.set_cons_zero, List.set_cons_succ])
                  (refine HT.takeL (i := 1) (v := ?_) rfl (by kernel_rfl) (fun _ _ _ h => h) (Or.inl ⟨by rfl, ?_⟩) (by assumption) ?_
                   rotate_left
                   · (intro w hSw; (try dsimp only at hSw); go_simp; (try with_reducible rfl))
                   try simp only [Act.put, List.setIfInBounds_toArray, List.set_cons_zero, List.set_cons_succ])
                  (refine HT.takeL (i := 2) (v := ?_) rfl (by kernel_rfl) (fun _ _ _ h => h) (Or.inl ⟨by rfl, ?_⟩) (by assumption) ?_
                   rotate_left
                   · (intro w hSw; (try dsimp only at hSw); go_simp; (try with_reducible rfl))
                   try simp only [Act.put, List.setIfInBounds_toArray, List.set_cons_zero, List.set_cons_succ])
                  (refine HT.takeL (i := 3) (v := ?_) rfl (by kernel_rfl) (fun _ _ _ h => h) (Or.inl ⟨by rfl, ?_⟩) (by assumption) ?_
                   rotate_left
                   · (intro w hSw; (try dsimp only at hSw); go_simp; (try with_reducible rfl))
                   try simp only [Act.put, List.setIfInBounds_toArray, List.set_cons_zero, List.set_cons_succ])
                  (refine HT.takeL (i := 4) (v := ?_) rfl (by kernel_rfl) (fun _ _ _ h => h) (Or.inl ⟨by rfl, ?_⟩) (by assumption) ?_
                   rotate_left
                   · (intro w hSw; (try dsimp only at hSw); go_simp; (try with_reducible rfl))
                   try simp only [Act.put, List.setIfInBounds_toArray, List.set_cons_zero, List.set_cons_succ])
                  (refine HT.takeL (i := 5) (v := ?_) rfl (by kernel_rfl) (fun _ _ _ h => h) (Or.inl ⟨by rfl, ?_⟩) (by assumption) ?_
                   rotate_left
                   · (intro w hSw; (try dsimp only at hSw); go_simp; (try with_reducible rfl))
                   try simp only [Act.put, List.setIfInBounds_toArray, List.set_cons_zero, List.set_cons_succ])
                  (refine HT.takeL (i := 6) (v := ?_) rfl (by kernel_rfl) (fun _ _ _ h => h) (Or.inl ⟨by rfl, ?_⟩) (by assumption) ?_
                   rotate_left
                   · (intro w hSw; (try dsimp only at hSw); go_simp; (try with_reducible rfl))
                   try simp only [Act.put, List.setIfInBounds_toArray, List.set_cons_zero, List.set_cons_succ])
                  (refine HT.takeL (i := 7) (v := .string (str l2)) rfl (by kernel_rfl) (fun _ _ _ h => h) (Or.inl ⟨by rfl, ?_⟩) (by assumption) ?_
                   · (intro w hSw; (try dsimp only at hSw); go_simp; (exact slice_part (fun z => Result.ok (Next.value (Value.string z)) w) w32.out w64.out (m := 32) (by omega) (by have := hFL.out; omega) (by rw [h2.out, List.drop_drop])))
                   try simp only [Act.put, List.setIfInBounds_toArray, List.set_cons_zero, List.set_cons_succ])
                  (refine HT.takeL (i := 8) (v := ?_) rfl (by kernel_rfl) (fun _ _ _ h => h) (Or.inl ⟨by rfl, ?_⟩) (by assumption) ?_
                   rotate_left
                   · (intro w hSw; (try dsimp only at hSw); go_simp; (try with_reducible rfl))
                   try simp only [Act.put, List.setIfInBounds_toArray, List.set_cons_zero, List.set_cons_succ])
                  (refine HT.takeL (i := 9) (v := ?_) rfl (by kernel_rfl) (fun _ _ _ h => h) (Or.inl ⟨by rfl, ?_⟩) (by assumption) ?_
                   rotate_left
                   · (intro w hSw; (try dsimp only at hSw); go_simp; (try with_reducible rfl))
                   try simp only [Act.put, List.setIfInBounds_toArray, List.set_cons_zero, List.set_cons_succ])
                  (refine HT.takeL (i := 10) (v := .int .i64 ((F2 : Int) + 64)) rfl (by kernel_rfl) (fun _ _ _ h => h) (Or.inl ⟨by rfl, ?_⟩) (by assumption) ?_
                   · (intro w hSw; (try dsimp only at hSw); go_simp; (simp only [x64.out]))
                   try simp only [Act.put, List.setIfInBounds_toArray, List.set_cons_zero, List.set_cons_succ])
                  (refine HT.takeL (i := 12) (v := ?_) rfl (by kernel_rfl) (fun _ _ _ h => h) (Or.inl ⟨by rfl, ?_⟩) (by assumption) ?_
                   rotate_left
                   · (intro w hSw; (try dsimp only at hSw); go_simp; (try with_reducible rfl))
                   try simp only [Act.put, List.setIfInBounds_toArray, List.set_cons_zero, List.set_cons_succ])
                  (refine HT.takeL (i := 13) (v := ?_) rfl (by kernel_rfl) (fun _ _ _ h => h) (Or.inl ⟨by rfl, ?_⟩) (by assumption) ?_
                   rotate_left
                   · (intro w hSw; (try dsimp only at hSw); go_simp; (try with_reducible rfl))
                   try simp only [Act.put, List.setIfInBounds_toArray, List.set_cons_zero, List.set_cons_succ])
                  (refine HT.takeL (i := 14) (v := .int .i64 ((F2 : Int) + 68)) rfl (by kernel_rfl) (fun _ _ _ h => h) (Or.inl ⟨by rfl, ?_⟩) (by assumption) ?_
                   · (intro w hSw; (try dsimp only at hSw); go_simp; (simp only [x68.out]))
                   try simp only [Act.put, List.setIfInBounds_toArray, List.set_cons_zero, List.set_cons_succ])
                  (refine HT.onlyL (i := 11) rfl (by kernel_rfl) (fun K hK => ?_)
                   (go_simp; (refine (hk1.out _).mono ?_; rintro e w9 ⟨rfl, hb9⟩; have s9 := sd.out.to hb9; have z9 := s9.bx.cells.2.2.2.2.2; have hz9 := s9.bx.lt))
                   refine hK.out _ _ ?_ (fun hHeld => ?_)
                   · (exact z9)
                   clear hK K
                   try simp only [Act.put, List.setIfInBounds_toArray, List.set_cons_zero, List.set_cons_succ])
                  (refine HT.onlyL (i := 15) rfl (by kernel_rfl) (fun K hK => ?_)
                   (go_simp; (refine (hk2.out _).mono ?_; rintro e w10 ⟨rfl, hb10⟩; have s10 := s9.to hb10; have z10 := s10.bx.cells.2.2.2.2.2; have hz10 := s10.bx.lt))
                   refine hK.out _ _ ?_ (fun hHeld => ?_)
                   · (exact z10)
                   clear hK K
                   try simp only [Act.put, List.setIfInBounds_toArray, List.set_cons_zero, List.set_cons_succ])
                  (refine HT.takeL (i := 16) (v := ?_) rfl (by kernel_rfl) (fun _ _ _ h => h) (Or.inl ⟨by rfl, ?_⟩) (by assumption) ?_
                   rotate_left
                   · (intro w hSw; (try dsimp only at hSw); go_simp; (try with_reducible rfl))
                   try simp only [Act.put, List.setIfInBounds_toArray, List.set_cons_zero, List.set_cons_succ])
                  (refine HT.onlyL (i := 17) rfl (by kernel_rfl) (fun K hK => ?_)
                   go_simp
                   refine hK.out _ _ ?_ (fun hHeld => ?_)
                   · (exact (s10.alloc _).bx.cells.2.2.2.2.2)
                   clear hK K
                   try simp only [Act.put, List.setIfInBounds_toArray, List.set_cons_zero, List.set_cons_succ])
                  (refine HT.onlyL (i := 18) rfl (by kernel_rfl) (fun K hK => ?_)
                   (refine Elem.step_one placeE (by rfl) (.tmp 91) (.tmp 107) (by rfl) (b8 + 1) (.slice A6 ps.length c6) ps (by rfl) _ _ ⟨str l2, i3, i4⟩ (by rfl) (by exact (s10.alloc _).o6) (by intro j u hu; rcases j with _ | _ | _ | j <;> simp [placeE, Place.cells] at hu <;> subst hu <;> go_simp) (by omega) (by first | omega | (simp; try omega)) ?_; intro v11 w11 hown hg hat; obtain ⟨A11, c11, rfl⟩ := hown.form; have bx11 := (s10.alloc _).bx.grown hg (s10.o6.ne_some (by omega)); have z11 := bx11.cells.2.2.2.2.2; have fz11 := bx11.frozen 5; have s11 := (s10.alloc _).grow6 hown hg hat)
                   refine hK.out _ _ ?_ (fun hHeld => ?_)
                   · (exact z11)
                   clear hK K
                   try simp only [Act.put, List.setIfInBounds_toArray, List.set_cons_zero, List.set_cons_succ])
                  refine HT.tail (by kernel_rfl) ?_
                  simp only [List.drop_succ_cons, List.drop_zero]
                  replace s11 := Lib.hid s11
                  clear hg hat hown
                  go_wp2_with fail
                  go_roundw
                  case rel => exact ⟨j + 1, F2 + 72, by omega, by go_num, by go_num, ⟨by have := hF2.out; omega, _, _, _, _, hstep.out, by simp; omega, by simp; omega, by have := s11.out; simp only [List.length_append, List.length_cons, List.length_nil, Nat.zero_add] at this; exact this⟩⟩
                  case measure => simp [intOf]; omega
                · obtain rfl : j = m := by omega
                  have hdone : Hid (rfChunks j (b.drop (F + 2)) [] [] = (cs, ps)) := by
                    unfold Hid
                    rw [hres, Nat.sub_self, rfChunks]
                  have hjc : ¬ (j : Int) < (j : Int) := by omega
                  replace s := Lib.hid s
                  replace hres := Lib.hid hres
                  replace hF2 := Lib.hid hF2
                  go_wp2_with fail
                  go_meet
                  exact ⟨_, _, rfl, rfl, _, _, by rw [hdone.out]; exact s.out⟩
            case rest =>
              obtain ⟨F6, F9, rfl, rfl, hcut⟩ := hcut
              obtain ⟨v5, v6, s12⟩ := hcut.out
              clear hcut
              have hrf : rf b = ⟨K.toNat, N.toNat, X, sn, (rfChunks m (b.drop (F + 2)) [] []).1, (rfChunks m (b.drop (F + 2)) [] []).2⟩ := by
                have h1 := hkn.out
                unfold rf
                rw [h1.1, h1.2.1, hcC.out, ← hm.out, hsn.out, hX.out, hF.out, show 11 + 44 * c + 2 = 13 + 44 * c by omega]
              have hok : Hid (∀ p ∈ (rfChunks m (b.drop (F + 2)) [] []).2, PlaceOk p) := rfChunks_ok (by simp)
              obtain ⟨cs, hcs⟩ : ∃ x, x = (rfChunks m (b.drop (F + 2)) [] []).1 := ⟨_, rfl⟩
              obtain ⟨ps, hps⟩ : ∃ x, x = (rfChunks m (b.drop (F + 2)) [] []).2 := ⟨_, rfl⟩
              rw [← hcs, ← hps] at hrf s12
              rw [← hps] at hok
              obtain ⟨A5, c5, rfl⟩ := s12.o5.form
              obtain ⟨A6, c6, rfl⟩ := s12.o6.form
              obtain ⟨q0, q1, q2, q3, q4, q5⟩ := s12.bx.cells
              have hmk : ∀ W, Below wc.heap.size wc W → Calls Try.prog 20 #[.agg #[.int .i64 (K.toNat : Int), .int .i64 (N.toNat : Int), .int .i64 X, .slice A4 sn.length c4, .slice A5 cs.length c5, .slice A6 ps.length c6]] W fun e w' => e = .returned (.tuple #[.string (makeRes (rf b)).1, .int .i64 (makeRes (rf b)).2]) ∧ Below W.heap.size W w' := fun W hb => by
                rw [hrf]
                exact ref23_Make ⟨A4, sn.length, c4, A5, cs.length, c5, A6, ps.length, c6⟩ _ W (StAt.to ⟨s12.o4.row Snap.len, s12.o5.row strCell_len, s12.o6.row Place.cells_len, hok.out⟩ hb)
              clear hcs hps s8
              replace hrf := Lib.hid hrf
              replace s12 := Lib.hid s12
              by_cases hyes : mayState (rf b) = true ∧ stB (rf b) = b
              · have hres : Hid (readRes b = (rf b, 0)) := readRes_yes hyes.1 hyes.2
                have hmr : makeRes (rf b) = (str b, 0) := by
                  unfold makeRes
                  rw [if_pos hyes.1, hyes.2]
                rw [hmr] at hmk
                clear hmr
                replace hmk := Lib.hid hmk
                replace hyes := Lib.hid hyes
                have gE : ((0 : Int) != 0) = false := by decide
                have gB : ((str b).toList != (str b).toList) = false := by simp
                go_wp2_with fail
                refine (hmk.out _ (Below.refl _ _)).mono ?_
                rintro e w13 ⟨rfl, hb13⟩
                have s13 := s12.out.to hb13
                clear q0 q1 q2 q3 q4 q5
                obtain ⟨q0, q1, q2, q3, q4, q5⟩ := s13.bx.cells
                obtain ⟨g0, g1, g2, g3, g4, g5⟩ := s13.z.cells
                have e0 := s13.z.frozen 0
                have e1 := s13.z.frozen 1
                have e2 := s13.z.frozen 2
                have e3 := s13.z.frozen 3
                have e4 := s13.z.frozen 4
                have e5 := s13.z.frozen 5
                replace s13 := Lib.hid s13
                go_wp2_with fail
                obtain ⟨t0, t1, t2, t3, t4, t5⟩ := (s13.out.z.set6 K.toNat N.toNat X (.slice A4 sn.length c4) (.slice A5 cs.length c5) (.slice A6 ps.length c6)).cells
                clear g0 g1 g2 g3 g4 g5 q0 q1 q2 q3 q4 q5
                have hlt13 := s13.out.lt
                exact bodyPost_ret (v := .tuple #[.agg #[.int .i64 K.toNat, .int .i64 N.toNat, .int .i64 X, .slice A4 sn.length c4, .slice A5 cs.length c5, .slice A6 ps.length c6], .int .i64 0]) (by simp [results, Try.results15, go_sem, t0, t1, t2, t3, t4, t5]) rfl
                  ⟨⟨A4, sn.length, c4, A5, cs.length, c5, A6, ps.length, c6⟩, by rw [hres.out, hrf.out], by rw [hres.out, hrf.out]; exact (s13.out.o4.set6 (by omega) _ _ _ _ _ _).from (by omega), by rw [hres.out, hrf.out]; exact (s13.out.o5.set6 (by omega) _ _ _ _ _ _).from (by omega), by rw [hres.out, hrf.out]; exact (s13.out.o6.set6 (by omega) _ _ _ _ _ _).from (by omega), by rw [hres.out, hrf.out]; exact hok.out, below_set6 s13.out.below (Nat.le_refl _) _ _ _ _ _ _⟩
              · have hres : Hid (readRes b = (stZero, 4)) := readRes_no hyes
                obtain ⟨R, E, hRE, hcase⟩ : ∃ R E, makeRes (rf b) = (R, E) ∧ ((E != 0) = true ∨ (E = 0 ∧ R ≠ str b)) := by
                  refine ⟨(makeRes (rf b)).1, (makeRes (rf b)).2, rfl, ?_⟩
                  unfold makeRes
                  by_cases hm : mayState (rf b) = true
                  · rw [if_pos hm]
                    refine .inr ⟨rfl, fun e => hyes ⟨hm, ?_⟩⟩
                    have := congrArg bl e
                    simpa [bl, str] using this
                  · rw [if_neg hm]
                    exact .inl rfl
                rw [hRE] at hmk
                replace hRE := Lib.hid hRE
                replace hmk := Lib.hid hmk
                clear hyes
                rcases hcase with gE | ⟨rfl, hne⟩
                · go_wp2_with fail
                  refine (hmk.out _ (Below.refl _ _)).mono ?_
                  rintro e w13 ⟨rfl, hb13⟩
                  have s13 := s12.out.to hb13
                  clear q0 q1 q2 q3 q4 q5
                  obtain ⟨q0, q1, q2, q3, q4, q5⟩ := s13.bx.cells
                  obtain ⟨g0, g1, g2, g3, g4, g5⟩ := s13.z.cells
                  have e0 := s13.z.frozen 0
                  have e1 := s13.z.frozen 1
                  have e2 := s13.z.frozen 2
                  have e3 := s13.z.frozen 3
                  have e4 := s13.z.frozen 4
                  have e5 := s13.z.frozen 5
                  replace s13 := Lib.hid s13
                  go_wp2_with fail
                  (obtain ⟨t0, t1, t2, t3, t4, t5⟩ := (BoxAt.set6 (s13.out.z) 0 0 0 (.slice none 0 0) (.slice none 0 0) (.slice none 0 0)).cells
                   clear g0 g1 g2 g3 g4 g5
                   exact bodyPost_ret (v := .tuple #[.agg #[.int .i64 0, .int .i64 0, .int .i64 0, .slice none 0 0, .slice none 0 0, .slice none 0 0], .int .i64 4]) (by simp [results, Try.results15, go_sem, t0, t1, t2, t3, t4, t5]) rfl
                     ⟨⟨none, 0, 0, none, 0, 0, none, 0, 0⟩, by rw [hres.out]; rfl, by rw [hres.out]; exact Owns.nil_, by rw [hres.out]; exact Owns.nil_, by rw [hres.out]; exact Owns.nil_, by rw [hres.out]; simp [stZero], below_set6 (s13.out.below) (Nat.le_refl _) _ _ _ _ _ _⟩)
                · have gE : ((0 : Int) != 0) = false := by decide
                  have gB : (R.toList == (str b).toList) = false := str_ne hne
                  have gB' : (R.toList != (str b).toList) = true := by simp [bne, gB]
                  replace hne := Lib.hid hne
                  go_wp2_with fail
                  refine (hmk.out _ (Below.refl _ _)).mono ?_
                  rintro e w13 ⟨rfl, hb13⟩
                  have s13 := s12.out.to hb13
                  clear q0 q1 q2 q3 q4 q5
                  obtain ⟨q0, q1, q2, q3, q4, q5⟩ := s13.bx.cells
                  obtain ⟨g0, g1, g2, g3, g4, g5⟩ := s13.z.cells
                  have e0 := s13.z.frozen 0
                  have e1 := s13.z.frozen 1
                  have e2 := s13.z.frozen 2
                  have e3 := s13.z.frozen 3
                  have e4 := s13.z.frozen 4
                  have e5 := s13.z.frozen 5
                  replace s13 := Lib.hid s13
                  go_wp2_with fail
                  (obtain ⟨t0, t1, t2, t3, t4, t5⟩ := (BoxAt.set6 (s13.out.z) 0 0 0 (.slice none 0 0) (.slice none 0 0) (.slice none 0 0)).cells
                   clear g0 g1 g2 g3 g4 g5
                   exact bodyPost_ret (v := .tuple #[.agg #[.int .i64 0, .int .i64 0, .int .i64 0, .slice none 0 0, .slice none 0 0, .slice none 0 0], .int .i64 4]) (by simp [results, Try.results15, go_sem, t0, t1, t2, t3, t4, t5]) rfl
                     ⟨⟨none, 0, 0, none, 0, 0, none, 0, 0⟩, by rw [hres.out]; rfl, by rw [hres.out]; exact Owns.nil_, by rw [hres.out]; exact Owns.nil_, by rw [hres.out]; exact Owns.nil_, by rw [hres.out]; simp [stZero], below_set6 (s13.out.below) (Nat.le_refl _) _ _ _ _ _ _⟩)
          · have hres : Hid (readRes b = (stZero, 4)) := readRes_len (by rw [hcC.out, ← hm.out, ← hL.out]; have := hF.out; omega)
            have hg3 : ((L : Int) != (F : Int) + 2 + 72 * (m : Int)) = true := by simp; omega
            replace s8 := Lib.hid s8
            replace hlen := Lib.hid hlen
            go_wp2_with fail
            (obtain ⟨t0, t1, t2, t3, t4, t5⟩ := (BoxAt.set6 (s8.out.z) 0 0 0 (.slice none 0 0) (.slice none 0 0) (.slice none 0 0)).cells
             clear g0 g1 g2 g3 g4 g5
             exact bodyPost_ret (v := .tuple #[.agg #[.int .i64 0, .int .i64 0, .int .i64 0, .slice none 0 0, .slice none 0 0, .slice none 0 0], .int .i64 4]) (by simp [results, Try.results15, go_sem, t0, t1, t2, t3, t4, t5]) rfl
               ⟨⟨none, 0, 0, none, 0, 0, none, 0, 0⟩, by rw [hres.out]; rfl, by rw [hres.out]; exact Owns.nil_, by rw [hres.out]; exact Owns.nil_, by rw [hres.out]; exact Owns.nil_, by rw [hres.out]; simp [stZero], below_set6 (s8.out.below) (Nat.le_refl _) _ _ _ _ _ _⟩)
end Go.Proofs.Ythbmbbbojpdlaaa
