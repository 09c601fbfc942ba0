/-
  The walk of WorldSuspects.
-/
import Derived.Test.YtfkonpmnclknaaaGreatSusL
namespace Go.Proofs.YtfkonpmnclknaaaGreat
open Go.RowKit
attribute [local go_sem ↓] Go.wp_at_zero Go.wp_at_succ

set_option maxHeartbeats 16000000 in
set_option maxRecDepth 100000 in
theorem worldSuspects_walk (A : Option Addr) (n c : Nat) (l : List Stepx) (w : World) (h : StepsAt w w.heap.size A n l ∧ (∀ a ∈ l, StepIn w w.heap.size a)) :
    Calls Tryz.prog 5 #[.slice A n c] w fun e w' => e = .returned (.bool true) ∧ Below w.heap.size w w' := by
  have hl := Lib.hid h.1.1
  go_enter Tryz.func5, Tryz.ntmps5
  go_wp2_with fail
  (refine (law08_long A n c l _ (h).1 (h).2).mono ?_
   rintro e wz ⟨he, hw⟩
   obtain rfl := hw.symm
   rcases he with ⟨rfl, hsh⟩ | rfl
   case inr =>
     go_wp2_with fail
     refine (law08_awake _).mono ?_
     rintro e wa ⟨rfl, ba⟩
     go_wp2_with fail
     go_ret
     exact ⟨rfl, by first | exact ba | exact hend.out _ ba⟩
   replace hsh := Lib.hid hsh
   go_wp2_with fail)
  have hn9 : n ≤ 60 := by have := hsh.out.1; have := hl.out; omega
  (refine (law08_awake w).mono ?_
   rintro e w1 ⟨rfl, y1⟩
   go_wp2_with fail
   refine (world_New 3 (by decide) (by decide) w1).mono ?_
   rintro e w2 ⟨rfl, X2, p2, lo2, y2⟩
   generalize hb9 : w1.heap.size = b at p2 ⊢
   replace hb9 := Lib.hid hb9
   go_wp2_with fail
   refine (ref08_New 3 (by decide) (by decide) w2).mono ?_
   rintro e w3 ⟨c9, Y3, rfl, p3, lo3, y3⟩
   have hP := Both.new y1 y1.size p2 lo2 y2 p3 lo3 y3
   clear p2 lo2 y2 p3 lo3 y3
   go_wp2_with fail)
  have hA4 : Below w3.heap.size w3 (w3.alloc (.cells #[.bool false, .bool false, .bool false] 53)) := (Below.refl _ w3).alloc (Nat.le_refl _) _
  have x0 := newCell w3 #[.bool false, .bool false, .bool false] 53 (0, 0)
  have v4 : ∀ k, k < 3 → (w3.alloc (.cells #[.bool false, .bool false, .bool false] 53)).cell? ⟨w3.heap.size, k, none⟩ = some (.bool ((fun _ : Nat => false) k)) := fun k hk => by
    rw [x0 k]
    match k, hk with
    | 0, _ => rfl
    | 1, _ => rfl
    | 2, _ => rfl
  have fz4 : ∀ o, (w3.alloc (.cells #[.bool false, .bool false, .bool false] 53)).frozen? ⟨w3.heap.size, o, none⟩ = false := fun o => World.frozen?_alloc_at _ _ _ _ rfl
  have hF4 := hP.frm.add (Z' := [w3.heap.size]) (Nat.le_refl _) hA4 (by simp)
  generalize w3.alloc (.cells #[.bool false, .bool false, .bool false] 53) = w4 at hA4 v4 hF4 fz4 ⊢
  generalize w3.heap.size = q7 at v4 hF4 fz4 ⊢
  clear x0 hP hA4
  go_loopw [8, 9, 10, 11, 12, 13, 14] (fun ti _ _ _ _ _ _ wr => ∃ (j : Nat) (m : Wld) (u : Nat → Bool), j ≤ n ∧ ti = .int .i64 j ∧ Frm w.heap.size w wr b j c9 m m [q7] ∧ Hid (∀ k, k < 3 → wr.cell? ⟨q7, k, none⟩ = some (.bool (u k))) ∧ Hid (∀ k, k < 3 → m.susp[k]? = some (u k)) ∧ Hid (∀ o, wr.frozen? ⟨q7, o, none⟩ = false)) (fun ti _ _ _ _ _ _ _ => n - (intOf ti).toNat)
  case atStart => exact ⟨0, _, fun _ => false, Nat.zero_le _, rfl, hF4, v4, by unfold Hid; intro k hk; match k, hk with | 0, _ => rfl | 1, _ => rfl | 2, _ => rfl, fz4⟩
  clear v4 hF4 fz4
  obtain ⟨j, m, u, hj, rfl, hF, hv, hsu, hfz⟩ := hrel
  obtain ⟨wp, rfl⟩ : ∃ x : World, x = wr := ⟨_, rfl⟩
  rcases Nat.lt_or_ge j n with hlt | hge
  case inl =>
    have hm3 := hF.both.three.1
    obtain ⟨b0, off, x, rfl, hb0, hx, q0, q1, q2, q3, q4, q5, q6, q7', q8, q9⟩ := (h.1.below hF.both.bel).stp hlt
    have hxs := hsh.out.2 x (List.mem_of_getElem? hx)
    have hkd := (h.2 x (List.mem_of_getElem? hx)).kind
    have hfk := (h.2 x (List.mem_of_getElem? hx)).fk
    have hox := Lib.hid ((h.2 x (List.mem_of_getElem? hx)).ok hxs.1 hxs.2.1)
    replace hx := Lib.hid hx
    clear hxs
    have hAa : Below wp.heap.size wp (wp.alloc (.cells #[.int .u8 x.kind, .int .i64 x.i, .string x.name, .string x.data, .slice x.A x.n x.c, .int .u8 x.f.kind, .int .i64 x.f.store, .int .i64 x.f.n, .int .i64 x.f.at_, .int .i64 x.f.c] 41)) := (Below.refl _ wp).alloc (Nat.le_refl _) _
    have hFa := hF.add (Z' := [wp.heap.size]) (Nat.le_refl _) hAa (by simp)
    have kpa := hF.kp hAa
    (have x9 := fun k => newCell wp #[.int .u8 x.kind, .int .i64 x.i, .string x.name, .string x.data, .slice x.A x.n x.c, .int .u8 x.f.kind, .int .i64 x.f.store, .int .i64 x.f.n, .int .i64 x.f.at_, .int .i64 x.f.c] 41 (0, 0) k
     have n0 := x9 0
     have n1 := x9 1
     have n2' := x9 2
     have n3 := x9 3
     have n4 := x9 4
     have n5 := x9 5
     have n6 := x9 6
     have n7 := x9 7
     have n8 := x9 8
     have n9 := x9 9
     clear x9)
    replace hF := Lib.hid hF
    go_upto_region 12 with fail
    generalize (wp.alloc (.cells #[.int .u8 x.kind, .int .i64 x.i, .string x.name, .string x.data, .slice x.A x.n x.c, .int .u8 x.f.kind, .int .i64 x.f.store, .int .i64 x.f.n, .int .i64 x.f.at_, .int .i64 x.f.c] 41)) = wa at hAa hFa kpa n0 n1 n2' n3 n4 n5 n6 n7 n8 n9 ⊢
    simp at n0 n1 n2' n3 n4 n5 n6 n7 n8 n9
    have hq7s0 := hF.out.low (z := q7) (by simp)
    generalize wp.heap.size = qs at hq7s0 hFa n0 n1 n2' n3 n4 n5 n6 n7 n8 n9 ⊢
    clear q0 q1 q2 q3 q4 q5 q6 q7' q8 q9
    have hq7s : q7 < qs := hq7s0
    have hqsa : qs < wa.heap.size := hFa.low (by simp)
    have hS1 := hFa.susp (Nat.le_refl _)
    replace hFa := Lib.hid hFa
    go_wp2_with fail
    refine hS1.mono ?_
    rintro e wb ⟨A1, n1', c1, Z1, rfl, i1, z1, hF1, b1, lo1⟩
    have kb : Kp ([qs] ++ [q7]) wa wb := hFa.out.kp b1
    have hC1 := hF1.copyx (Nat.le_refl _)
    replace hF1 := Lib.hid hF1
    replace i1 := Lib.hid i1
    clear hS1 hFa
    go_wp2_with fail
    refine hC1.mono ?_
    rintro e wc ⟨b2, X2, rfl, y2, b11, lo2, ok2⟩
    clear hC1
    have hqs := Lib.hid (show qs ∈ [qs] ++ [q7] by simp)
    have hq7 := Lib.hid (show q7 ∈ [qs] ++ [q7] by simp)
    have kbc := (hF1.out.kp b11)
    have kac : Kp ([qs] ++ [q7]) wa wc := kb.trans (kbc.less fun z hz => List.mem_append.2 (.inr hz))
    have hz1 : Hid (∀ b off, A1 = some ⟨b, off, none⟩ → b ∈ Z1 ++ ([qs] ++ [q7])) := fun b off e => List.mem_append.2 (.inl (z1 b off e))
    have i3 := Lib.hid (kbc.ints i1.out hz1)
    have v3 : ∀ k, k < 3 → wc.cell? ⟨q7, k, none⟩ = some (.bool (u k)) := fun k hk => (kac.cell hq7.out).trans ((kpa.cell (by simp)).trans (hv.out k hk))
    have hF3 := hF1.out.below (Nat.le_refl _) b11
    have fz3 : ∀ o, wc.frozen? ⟨q7, o, none⟩ = false := fun o => (kac.frozen hq7.out).trans ((kpa.frozen (by simp)).trans (hfz.out o))
    replace fz3 := Lib.hid fz3
    replace v3 := Lib.hid v3
    by_cases e7 : x.kind = 7
    · have k0 : (x.kind == (7 : Int)) = true := by simpa using e7
      have hk78 : ¬ 7 < x.kind := by omega
      have sr := susp_strike m x.f
      have hSt := ref08_Strike b2 j X2 m x.f hfk wc y2 ok2
      unfold Flt.agg at hSt
      have hst7 : m.step x = (m.strike x.f).1 := step_strike e7
      replace e7 := Lib.hid e7
      have hZ3 : Hid (qs ∈ Z1 ++ ([qs] ++ [q7]) ∧ q7 ∈ Z1 ++ ([qs] ++ [q7])) := by unfold Hid; simp
      have kac1 := kac.less (Z' := [qs]) (by simp)
      (have m0 := (kac1.cell (o := 0) List.mem_cons_self).trans n0
       have m1 := (kac1.cell (o := 1) List.mem_cons_self).trans n1
       have m2 := (kac1.cell (o := 2) List.mem_cons_self).trans n2'
       have m3 := (kac1.cell (o := 3) List.mem_cons_self).trans n3
       have m4 := (kac1.cell (o := 4) List.mem_cons_self).trans n4
       have m5 := (kac1.cell (o := 5) List.mem_cons_self).trans n5
       have m6 := (kac1.cell (o := 6) List.mem_cons_self).trans n6
       have m7 := (kac1.cell (o := 7) List.mem_cons_self).trans n7
       have m8' := (kac1.cell (o := 8) List.mem_cons_self).trans n8
       have m9 := (kac1.cell (o := 9) List.mem_cons_self).trans n9)
      have hcont : ∀ wd, RWTo b2 X2 (m.strike x.f).1 wc wd → Frm w.heap.size w wd b j c9 m m (Z1 ++ ([qs] ++ [q7])) ∧ Kp (Z1 ++ ([qs] ++ [q7])) wb wd := fun wd t2 => by
        obtain ⟨X9, _, tb, _⟩ := t2
        have bd : Below wb.heap.size wb wd := b11.trans (tb.below b11.size lo2)
        exact ⟨hF1.out.below (Nat.le_refl _) bd, hF1.out.kp bd⟩
      replace hcont := Lib.hid hcont
      clear hF3 i3 v3 kac1 fz3
      by_cases hmk : (m.strike x.f).2 = 0 ∧ x.f.kind ≠ 5 ∧ x.f.kind ≠ 7
      · obtain ⟨r0, f5, f7⟩ := hmk
        obtain ⟨st0, st1⟩ := sr.1 r0
        rw [hm3] at st1
        obtain ⟨kk, hkk⟩ : ∃ kk : Nat, x.f.store = kk := ⟨x.f.store.toNat, by omega⟩
        have hkk3 : kk < 3 := by omega
        have hsu : Hid (∀ k, k < 3 → (m.step x).susp[k]? = some ((fun k => if k = kk then true else u k) k)) := by
          unfold Hid
          intro k hk
          have hkt : x.f.store.toNat = kk := by omega
          have hml : m.susp.length = 3 := by unfold Wld.susp; simp; exact hm3
          rw [hst7, sr.2.1 ⟨r0, f5, f7⟩, List.getElem?_set, hkt]
          by_cases e : k = kk
          · subst e
            rw [if_pos rfl, if_pos (by omega)]
            simp
          · rw [if_neg (fun h => e h.symm), hsu.out k hk]
            simp [e]
        have e5 : (x.f.kind != (5 : Int)) = true := by simpa using f5
        have e7' : (x.f.kind != (7 : Int)) = true := by simpa using f7
        rw [r0] at hSt
        replace hkk := Lib.hid hkk
        replace hst7 := Lib.hid hst7
        replace sr := Lib.hid sr
        replace r0 := Lib.hid r0
        go_wp2_with fail
        refine hSt.mono ?_
        rintro e wd ⟨rfl, t2⟩
        obtain ⟨hF3, kbd⟩ := hcont.out wd t2
        have kad := kb.trans (kbd.less (Z' := [qs] ++ [q7]) fun z hz => List.mem_append.2 (.inr hz))
        have kad1 := kad.less (Z' := [qs]) (by simp)
        clear t2 hSt hcont m0 m1 m2 m3 m4 m5 m6 m7 m8' m9
        (have m0 := (kad1.cell (o := 0) List.mem_cons_self).trans n0
         have m1 := (kad1.cell (o := 1) List.mem_cons_self).trans n1
         have m2 := (kad1.cell (o := 2) List.mem_cons_self).trans n2'
         have m3 := (kad1.cell (o := 3) List.mem_cons_self).trans n3
         have m4 := (kad1.cell (o := 4) List.mem_cons_self).trans n4
         have m5 := (kad1.cell (o := 5) List.mem_cons_self).trans n5
         have m6 := (kad1.cell (o := 6) List.mem_cons_self).trans n6
         have m7 := (kad1.cell (o := 7) List.mem_cons_self).trans n7
         have m8' := (kad1.cell (o := 8) List.mem_cons_self).trans n8
         have m9 := (kad1.cell (o := 9) List.mem_cons_self).trans n9)
        have v3 : ∀ k, k < 3 → wd.cell? ⟨q7, k, none⟩ = some (.bool (u k)) := fun k hk => (kad.cell (by simp)).trans ((kpa.cell (by simp)).trans (hv.out k hk))
        have i3 := kbd.ints i1.out hz1.out
        have fz3 : ∀ o, wd.frozen? ⟨q7, o, none⟩ = false := fun o => (kad.frozen (by simp)).trans ((kpa.frozen (by simp)).trans (hfz.out o))
        have fzk := fz3 kk
        have vk := v3 kk hkk3
        rw [hkk.out] at m6
        replace v3 := Lib.hid v3
        replace i3 := Lib.hid i3
        replace hF3 := Lib.hid hF3
        go_upto_region 16 with fail
        have ks := Kp.set (Z := [qs]) wd (q := q7) (o := kk) (.bool true) (by simp; omega)
        have ks1 := Kp.set (Z := Z1) wd (q := q7) (o := kk) (.bool true) (fun z hz => by have := lo1 z hz; omega)
        have hF4 := hF3.out.set hZ3.out.2 (o := kk) (.bool true)
        have v4 : ∀ k, k < 3 → (wd.setCell ⟨q7, kk, none⟩ (.bool true)).cell? ⟨q7, k, none⟩ = some (.bool ((fun k => if k = kk then true else u k) k)) := fun k hk => by
          by_cases e : k = kk
          · subst e
            exact (World.cell?_setCell_same _ _ _ vk).trans (by simp)
          · rw [World.cell?_setCell_other _ _ _ _ (fun h => by simp only [Addr.mk.injEq] at h; omega), v3.out k hk]
            simp [e]
        have fz4 : ∀ o, (wd.setCell ⟨q7, kk, none⟩ (.bool true)).frozen? ⟨q7, o, none⟩ = false := fun o => (frozen_set _ _ _ _ _).trans (fz3 o)
        have i4 := ks1.ints i3.out z1
        have kae := kad1.trans ks
        generalize wd.setCell ⟨q7, kk, none⟩ (.bool true) = we at ks ks1 hF4 v4 i4 kae fz4 ⊢
        clear m0 m1 m2 m3 m4 m5 m6 m7 m8' m9 v3 i3 hF3 vk fz3 fzk
        (have m0 := (kae.cell (o := 0) List.mem_cons_self).trans n0
         have m1 := (kae.cell (o := 1) List.mem_cons_self).trans n1
         have m2 := (kae.cell (o := 2) List.mem_cons_self).trans n2'
         have m3 := (kae.cell (o := 3) List.mem_cons_self).trans n3
         have m4 := (kae.cell (o := 4) List.mem_cons_self).trans n4
         have m5 := (kae.cell (o := 5) List.mem_cons_self).trans n5
         have m6 := (kae.cell (o := 6) List.mem_cons_self).trans n6
         have m7 := (kae.cell (o := 7) List.mem_cons_self).trans n7
         have m8' := (kae.cell (o := 8) List.mem_cons_self).trans n8
         have m9 := (kae.cell (o := 9) List.mem_cons_self).trans n9)
        have v3 := Lib.hid v4
        have i3 := Lib.hid i4
        have fz3 := Lib.hid fz4
        have hF3 := hF4
        clear v4 i4 hF4 fz4
        (replace hqs : Hid (qs ∈ Z1 ++ ([qs] ++ [q7])) := hZ3.out.1
         replace hq7 : Hid (q7 ∈ Z1 ++ ([qs] ++ [q7])) := hZ3.out.2
         clear hZ3
         generalize Z1 ++ ([qs] ++ [q7]) = Z3 at hF3 hz1 hqs hq7)
        (have hD := hF3.do_ (Nat.le_refl _) (hox.out.below hF3.both.bel) (by omega)
         unfold Stepx.agg at hD
         replace hD := Lib.hid hD
         replace hF3 := Lib.hid hF3
         go_wp2_with fail
         refine hD.out.mono ?_
         rintro e w5 ⟨R, rfl, hF5, k5⟩
         have v5 : ∀ k, k < 3 → w5.cell? ⟨q7, k, none⟩ = some (.bool ((fun k => if k = kk then true else u k) k)) := fun k hk => (k5.cell hq7.out).trans (v3.out k hk)
         have z5 : ∀ o, w5.frozen? ⟨q7, o, none⟩ = false := fun o => (k5.frozen hq7.out).trans (fz3.out o)
         replace z5 := Lib.hid z5
         have g5 : w5.cell? ⟨qs, 0, none⟩ = some (.int .u8 x.kind) := (k5.cell hqs.out).trans m0
         have i5 := k5.ints i3.out hz1.out
         have hsz5 := k5.size
         generalize hm8 : m.step x = m8 at hF5 hsu
         replace hm8 := Lib.hid hm8
         have hS := hF5.susp (Nat.le_refl _)
         clear hD hF3 m0 m1 m2 m3 m4 m5 m6 m7 m8' m9 v3 i3 k5
         replace v5 := Lib.hid v5
         replace i5 := Lib.hid i5
         replace hF5 := Lib.hid hF5
         go_wp2_with fail
         refine hS.mono ?_
         rintro e w6 ⟨A6, n6, c6, Z6, rfl, i6, z6, hF6, b6, lo6⟩
         have k6 := hF5.out.kp b6
         have v6 : ∀ k, k < 3 → w6.cell? ⟨q7, k, none⟩ = some (.bool ((fun k => if k = kk then true else u k) k)) := fun k hk => (k6.cell hq7.out).trans (v5.out k hk)
         have fz6 : ∀ o, w6.frozen? ⟨q7, o, none⟩ = false := fun o => (k6.frozen hq7.out).trans (z5.out o)
         replace fz6 := Lib.hid fz6
         have g6 : w6.cell? ⟨qs, 0, none⟩ = some (.int .u8 x.kind) := (k6.cell hqs.out).trans g5
         have i6b := k6.ints i5.out hz1.out
         replace v6 := Lib.hid v6
         replace hF6 := Lib.hid hF6
         replace i6b := Lib.hid i6b
         replace i6 := Lib.hid i6
         clear hS hF5 v5 g5 i5 k6)
        (have hin := Lib.hid fun (k : Nat) W (hW : Below w6.heap.size w6 W) => law08_in A6 n6 c6 m8.suspects k W (i6.out.to hW)
         have hq3 := (hF6.out.low (List.mem_append.2 (.inr hq7.out)))
         go_wp2_with fail
         go_loopw [14] (fun ti wr => ∃ k : Nat, k ≤ 3 ∧ ti = .int .i64 k ∧ Below w6.heap.size w6 wr) (fun ti _ => 3 - (intOf ti).toNat)
         case atStart => exact ⟨0, Nat.zero_le _, rfl, Below.refl _ _⟩
         obtain ⟨k, hk, rfl, hbr⟩ := hrel
         obtain ⟨wq, rfl⟩ : ∃ x : World, x = wr := ⟨_, rfl⟩
         rcases Nat.lt_or_ge k 3 with hk3 | hk3
         case inl =>
           have hde : decide ((k : Int) ∈ m8.suspects) = (fun k => if k = kk then true else u k) k := by
             have e1 := mem_susp m8 k
             have e2 := hsu.out k hk3
             rw [e2] at e1
             cases hu : (fun k => if k = kk then true else u k) k <;> simp [hu] at e1 ⊢ <;> exact e1
           have hq := hin.out k
           rw [hde] at hq
           replace hde := Lib.hid hde
           have t7 : wq.cell? ⟨q7, k, none⟩ = some (.bool ((fun k => if k = kk then true else u k) k)) := (hbr.cell (p := ⟨q7, k, none⟩) hq3).trans (v6.out k hk3)
           generalize (fun k => if k = kk then true else u k) k = U at hq t7
           have hUU : (U == U) = true := by simp
           have hUV : (U != U) = false := by simp
           replace hq := Lib.hid hq
           go_wp2_with fail
           go_quiet ((with_reducible exact Calls.quiet_of_same (hq.out _ (below_drewN hbr _))))
           go_wp2_with fail
           go_roundw
           case rel => exact ⟨k + 1, by omega, by go_num, (by repeat (first | exact Below.refl _ _ | assumption | refine Below.drew ?_ | refine below_drewN ?_ _ | refine Below.alloc ?_ (by first | omega | (simp; try omega)) _ | refine Below.setCell ?_ (by first | omega | (simp; try omega)) _ | (refine Below.trans ?_ (Below.mono (by assumption) (by first | omega | (simp; try omega))))))⟩
           case measure => simp [intOf]; omega
         obtain rfl : k = 3 := by omega
         clear hk3 hk hin
         go_wp2_with fail
         go_roundw
         case rel => exact ⟨j + 1, m8, (fun k => if k = kk then true else u k), by omega, by go_num, (hF6.out.below (Nat.le_refl _) hbr).less (by intro z hz; simp at hz; subst hz; exact List.mem_append.2 (.inr hq7.out)), by unfold Hid; exact fun k hk => (hbr.cell (p := ⟨q7, k, none⟩) hq3).trans (v6.out k hk), hsu, by unfold Hid; exact fun o => ((bcell hbr).2 q7 o hq3).trans (fz6.out o)⟩
         case measure => simp [intOf]; omega)
      · have hsu : Hid (∀ k, k < 3 → (m.step x).susp[k]? = some (u k)) := by unfold Hid; intro k hk; rw [hst7, sr.2.2 hmk]; exact hsu.out k hk
        replace hst7 := Lib.hid hst7
        replace sr := Lib.hid sr
        have hways : ∃ R, (m.strike x.f).2 = R ∧ ((R ≠ 0) ∨ (R = 0 ∧ (x.f.kind = 5 ∨ (x.f.kind ≠ 5 ∧ x.f.kind = 7)))) := ⟨_, rfl, by
          by_cases a1 : (m.strike x.f).2 = 0
          · by_cases a2 : x.f.kind = 5
            · exact .inr ⟨a1, .inl a2⟩
            · by_cases a3 : x.f.kind = 7
              · exact .inr ⟨a1, .inr ⟨a2, a3⟩⟩
              · exact (hmk ⟨a1, a2, a3⟩).elim
          · exact .inl a1⟩
        obtain ⟨R, hR, hways⟩ := hways
        rw [hR] at hSt
        replace hR := Lib.hid hR
        replace hmk := Lib.hid hmk
        rcases hways with hn | ⟨rfl, f5 | ⟨f5, f7⟩⟩
        · have r0 : (R == (0 : Int)) = false := by simpa using hn
          (go_wp2_with fail
           refine hSt.mono ?_
           rintro e wd ⟨rfl, t2⟩
           obtain ⟨hF3, kbd⟩ := hcont.out wd t2
           have kad := kb.trans (kbd.less (Z' := [qs] ++ [q7]) fun z hz => List.mem_append.2 (.inr hz))
           have kad1 := kad.less (Z' := [qs]) (by simp)
           clear t2 hSt hcont m0 m1 m2 m3 m4 m5 m6 m7 m8' m9
           (have m0 := (kad1.cell (o := 0) List.mem_cons_self).trans n0
            have m1 := (kad1.cell (o := 1) List.mem_cons_self).trans n1
            have m2 := (kad1.cell (o := 2) List.mem_cons_self).trans n2'
            have m3 := (kad1.cell (o := 3) List.mem_cons_self).trans n3
            have m4 := (kad1.cell (o := 4) List.mem_cons_self).trans n4
            have m5 := (kad1.cell (o := 5) List.mem_cons_self).trans n5
            have m6 := (kad1.cell (o := 6) List.mem_cons_self).trans n6
            have m7 := (kad1.cell (o := 7) List.mem_cons_self).trans n7
            have m8' := (kad1.cell (o := 8) List.mem_cons_self).trans n8
            have m9 := (kad1.cell (o := 9) List.mem_cons_self).trans n9)
           have v3 : ∀ k, k < 3 → wd.cell? ⟨q7, k, none⟩ = some (.bool (u k)) := fun k hk => (kad.cell (by simp)).trans ((kpa.cell (by simp)).trans (hv.out k hk))
           have i3 := kbd.ints i1.out hz1.out
           have fz3 : ∀ o, wd.frozen? ⟨q7, o, none⟩ = false := fun o => (kad.frozen (by simp)).trans ((kpa.frozen (by simp)).trans (hfz.out o))
           replace fz3 := Lib.hid fz3
           replace v3 := Lib.hid v3
           replace i3 := Lib.hid i3
           clear kad1 kbd kad
           (replace hqs : Hid (qs ∈ Z1 ++ ([qs] ++ [q7])) := hZ3.out.1
            replace hq7 : Hid (q7 ∈ Z1 ++ ([qs] ++ [q7])) := hZ3.out.2
            clear hZ3
            generalize Z1 ++ ([qs] ++ [q7]) = Z3 at hF3 hz1 hqs hq7)
           (have hD := hF3.do_ (Nat.le_refl _) (hox.out.below hF3.both.bel) (by omega)
            unfold Stepx.agg at hD
            replace hD := Lib.hid hD
            replace hF3 := Lib.hid hF3
            go_wp2_with fail
            refine hD.out.mono ?_
            rintro e w5 ⟨R, rfl, hF5, k5⟩
            have v5 : ∀ k, k < 3 → w5.cell? ⟨q7, k, none⟩ = some (.bool (u k)) := fun k hk => (k5.cell hq7.out).trans (v3.out k hk)
            have z5 : ∀ o, w5.frozen? ⟨q7, o, none⟩ = false := fun o => (k5.frozen hq7.out).trans (fz3.out o)
            replace z5 := Lib.hid z5
            have g5 : w5.cell? ⟨qs, 0, none⟩ = some (.int .u8 x.kind) := (k5.cell hqs.out).trans m0
            have i5 := k5.ints i3.out hz1.out
            have hsz5 := k5.size
            generalize hm8 : m.step x = m8 at hF5 hsu
            replace hm8 := Lib.hid hm8
            have hS := hF5.susp (Nat.le_refl _)
            clear hD hF3 m0 m1 m2 m3 m4 m5 m6 m7 m8' m9 v3 i3 k5
            replace v5 := Lib.hid v5
            replace i5 := Lib.hid i5
            replace hF5 := Lib.hid hF5
            go_wp2_with fail
            refine hS.mono ?_
            rintro e w6 ⟨A6, n6, c6, Z6, rfl, i6, z6, hF6, b6, lo6⟩
            have k6 := hF5.out.kp b6
            have v6 : ∀ k, k < 3 → w6.cell? ⟨q7, k, none⟩ = some (.bool (u k)) := fun k hk => (k6.cell hq7.out).trans (v5.out k hk)
            have fz6 : ∀ o, w6.frozen? ⟨q7, o, none⟩ = false := fun o => (k6.frozen hq7.out).trans (z5.out o)
            replace fz6 := Lib.hid fz6
            have g6 : w6.cell? ⟨qs, 0, none⟩ = some (.int .u8 x.kind) := (k6.cell hqs.out).trans g5
            have i6b := k6.ints i5.out hz1.out
            replace v6 := Lib.hid v6
            replace hF6 := Lib.hid hF6
            replace i6b := Lib.hid i6b
            replace i6 := Lib.hid i6
            clear hS hF5 v5 g5 i5 k6)
           (have hin := Lib.hid fun (k : Nat) W (hW : Below w6.heap.size w6 W) => law08_in A6 n6 c6 m8.suspects k W (i6.out.to hW)
            have hq3 := (hF6.out.low (List.mem_append.2 (.inr hq7.out)))
            go_wp2_with fail
            go_loopw [14] (fun ti wr => ∃ k : Nat, k ≤ 3 ∧ ti = .int .i64 k ∧ Below w6.heap.size w6 wr) (fun ti _ => 3 - (intOf ti).toNat)
            case atStart => exact ⟨0, Nat.zero_le _, rfl, Below.refl _ _⟩
            obtain ⟨k, hk, rfl, hbr⟩ := hrel
            obtain ⟨wq, rfl⟩ : ∃ x : World, x = wr := ⟨_, rfl⟩
            rcases Nat.lt_or_ge k 3 with hk3 | hk3
            case inl =>
              have hde : decide ((k : Int) ∈ m8.suspects) = u k := by
                have e1 := mem_susp m8 k
                have e2 := hsu.out k hk3
                rw [e2] at e1
                cases hu : u k <;> simp [hu] at e1 ⊢ <;> exact e1
              have hq := hin.out k
              rw [hde] at hq
              replace hde := Lib.hid hde
              have t7 : wq.cell? ⟨q7, k, none⟩ = some (.bool (u k)) := (hbr.cell (p := ⟨q7, k, none⟩) hq3).trans (v6.out k hk3)
              generalize u k = U at hq t7
              have hUU : (U == U) = true := by simp
              have hUV : (U != U) = false := by simp
              replace hq := Lib.hid hq
              go_wp2_with fail
              go_quiet ((with_reducible exact Calls.quiet_of_same (hq.out _ (below_drewN hbr _))))
              go_wp2_with fail
              go_roundw
              case rel => exact ⟨k + 1, by omega, by go_num, (by repeat (first | exact Below.refl _ _ | assumption | refine Below.drew ?_ | refine below_drewN ?_ _ | refine Below.alloc ?_ (by first | omega | (simp; try omega)) _ | refine Below.setCell ?_ (by first | omega | (simp; try omega)) _ | (refine Below.trans ?_ (Below.mono (by assumption) (by first | omega | (simp; try omega))))))⟩
              case measure => simp [intOf]; omega
            obtain rfl : k = 3 := by omega
            clear hk3 hk hin
            go_wp2_with fail
            go_roundw
            case rel => exact ⟨j + 1, m8, u, by omega, by go_num, (hF6.out.below (Nat.le_refl _) hbr).less (by intro z hz; simp at hz; subst hz; exact List.mem_append.2 (.inr hq7.out)), by unfold Hid; exact fun k hk => (hbr.cell (p := ⟨q7, k, none⟩) hq3).trans (v6.out k hk), hsu, by unfold Hid; exact fun o => ((bcell hbr).2 q7 o hq3).trans (fz6.out o)⟩
            case measure => simp [intOf]; omega))
        · have e5 : (x.f.kind != (5 : Int)) = false := by simpa using f5
          replace f5 := Lib.hid f5
          (go_wp2_with fail
           refine hSt.mono ?_
           rintro e wd ⟨rfl, t2⟩
           obtain ⟨hF3, kbd⟩ := hcont.out wd t2
           have kad := kb.trans (kbd.less (Z' := [qs] ++ [q7]) fun z hz => List.mem_append.2 (.inr hz))
           have kad1 := kad.less (Z' := [qs]) (by simp)
           clear t2 hSt hcont m0 m1 m2 m3 m4 m5 m6 m7 m8' m9
           (have m0 := (kad1.cell (o := 0) List.mem_cons_self).trans n0
            have m1 := (kad1.cell (o := 1) List.mem_cons_self).trans n1
            have m2 := (kad1.cell (o := 2) List.mem_cons_self).trans n2'
            have m3 := (kad1.cell (o := 3) List.mem_cons_self).trans n3
            have m4 := (kad1.cell (o := 4) List.mem_cons_self).trans n4
            have m5 := (kad1.cell (o := 5) List.mem_cons_self).trans n5
            have m6 := (kad1.cell (o := 6) List.mem_cons_self).trans n6
            have m7 := (kad1.cell (o := 7) List.mem_cons_self).trans n7
            have m8' := (kad1.cell (o := 8) List.mem_cons_self).trans n8
            have m9 := (kad1.cell (o := 9) List.mem_cons_self).trans n9)
           have v3 : ∀ k, k < 3 → wd.cell? ⟨q7, k, none⟩ = some (.bool (u k)) := fun k hk => (kad.cell (by simp)).trans ((kpa.cell (by simp)).trans (hv.out k hk))
           have i3 := kbd.ints i1.out hz1.out
           have fz3 : ∀ o, wd.frozen? ⟨q7, o, none⟩ = false := fun o => (kad.frozen (by simp)).trans ((kpa.frozen (by simp)).trans (hfz.out o))
           replace fz3 := Lib.hid fz3
           replace v3 := Lib.hid v3
           replace i3 := Lib.hid i3
           clear kad1 kbd kad
           (replace hqs : Hid (qs ∈ Z1 ++ ([qs] ++ [q7])) := hZ3.out.1
            replace hq7 : Hid (q7 ∈ Z1 ++ ([qs] ++ [q7])) := hZ3.out.2
            clear hZ3
            generalize Z1 ++ ([qs] ++ [q7]) = Z3 at hF3 hz1 hqs hq7)
           (have hD := hF3.do_ (Nat.le_refl _) (hox.out.below hF3.both.bel) (by omega)
            unfold Stepx.agg at hD
            replace hD := Lib.hid hD
            replace hF3 := Lib.hid hF3
            go_wp2_with fail
            refine hD.out.mono ?_
            rintro e w5 ⟨R, rfl, hF5, k5⟩
            have v5 : ∀ k, k < 3 → w5.cell? ⟨q7, k, none⟩ = some (.bool (u k)) := fun k hk => (k5.cell hq7.out).trans (v3.out k hk)
            have z5 : ∀ o, w5.frozen? ⟨q7, o, none⟩ = false := fun o => (k5.frozen hq7.out).trans (fz3.out o)
            replace z5 := Lib.hid z5
            have g5 : w5.cell? ⟨qs, 0, none⟩ = some (.int .u8 x.kind) := (k5.cell hqs.out).trans m0
            have i5 := k5.ints i3.out hz1.out
            have hsz5 := k5.size
            generalize hm8 : m.step x = m8 at hF5 hsu
            replace hm8 := Lib.hid hm8
            have hS := hF5.susp (Nat.le_refl _)
            clear hD hF3 m0 m1 m2 m3 m4 m5 m6 m7 m8' m9 v3 i3 k5
            replace v5 := Lib.hid v5
            replace i5 := Lib.hid i5
            replace hF5 := Lib.hid hF5
            go_wp2_with fail
            refine hS.mono ?_
            rintro e w6 ⟨A6, n6, c6, Z6, rfl, i6, z6, hF6, b6, lo6⟩
            have k6 := hF5.out.kp b6
            have v6 : ∀ k, k < 3 → w6.cell? ⟨q7, k, none⟩ = some (.bool (u k)) := fun k hk => (k6.cell hq7.out).trans (v5.out k hk)
            have fz6 : ∀ o, w6.frozen? ⟨q7, o, none⟩ = false := fun o => (k6.frozen hq7.out).trans (z5.out o)
            replace fz6 := Lib.hid fz6
            have g6 : w6.cell? ⟨qs, 0, none⟩ = some (.int .u8 x.kind) := (k6.cell hqs.out).trans g5
            have i6b := k6.ints i5.out hz1.out
            replace v6 := Lib.hid v6
            replace hF6 := Lib.hid hF6
            replace i6b := Lib.hid i6b
            replace i6 := Lib.hid i6
            clear hS hF5 v5 g5 i5 k6)
           (have hin := Lib.hid fun (k : Nat) W (hW : Below w6.heap.size w6 W) => law08_in A6 n6 c6 m8.suspects k W (i6.out.to hW)
            have hq3 := (hF6.out.low (List.mem_append.2 (.inr hq7.out)))
            go_wp2_with fail
            go_loopw [14] (fun ti wr => ∃ k : Nat, k ≤ 3 ∧ ti = .int .i64 k ∧ Below w6.heap.size w6 wr) (fun ti _ => 3 - (intOf ti).toNat)
            case atStart => exact ⟨0, Nat.zero_le _, rfl, Below.refl _ _⟩
            obtain ⟨k, hk, rfl, hbr⟩ := hrel
            obtain ⟨wq, rfl⟩ : ∃ x : World, x = wr := ⟨_, rfl⟩
            rcases Nat.lt_or_ge k 3 with hk3 | hk3
            case inl =>
              have hde : decide ((k : Int) ∈ m8.suspects) = u k := by
                have e1 := mem_susp m8 k
                have e2 := hsu.out k hk3
                rw [e2] at e1
                cases hu : u k <;> simp [hu] at e1 ⊢ <;> exact e1
              have hq := hin.out k
              rw [hde] at hq
              replace hde := Lib.hid hde
              have t7 : wq.cell? ⟨q7, k, none⟩ = some (.bool (u k)) := (hbr.cell (p := ⟨q7, k, none⟩) hq3).trans (v6.out k hk3)
              generalize u k = U at hq t7
              have hUU : (U == U) = true := by simp
              have hUV : (U != U) = false := by simp
              replace hq := Lib.hid hq
              go_wp2_with fail
              go_quiet ((with_reducible exact Calls.quiet_of_same (hq.out _ (below_drewN hbr _))))
              go_wp2_with fail
              go_roundw
              case rel => exact ⟨k + 1, by omega, by go_num, (by repeat (first | exact Below.refl _ _ | assumption | refine Below.drew ?_ | refine below_drewN ?_ _ | refine Below.alloc ?_ (by first | omega | (simp; try omega)) _ | refine Below.setCell ?_ (by first | omega | (simp; try omega)) _ | (refine Below.trans ?_ (Below.mono (by assumption) (by first | omega | (simp; try omega))))))⟩
              case measure => simp [intOf]; omega
            obtain rfl : k = 3 := by omega
            clear hk3 hk hin
            go_wp2_with fail
            go_roundw
            case rel => exact ⟨j + 1, m8, u, by omega, by go_num, (hF6.out.below (Nat.le_refl _) hbr).less (by intro z hz; simp at hz; subst hz; exact List.mem_append.2 (.inr hq7.out)), by unfold Hid; exact fun k hk => (hbr.cell (p := ⟨q7, k, none⟩) hq3).trans (v6.out k hk), hsu, by unfold Hid; exact fun o => ((bcell hbr).2 q7 o hq3).trans (fz6.out o)⟩
            case measure => simp [intOf]; omega))
        · have e5 : (x.f.kind != (5 : Int)) = true := by simpa using f5
          have e7' : (x.f.kind != (7 : Int)) = false := by simpa using f7
          replace f5 := Lib.hid f5
          replace f7 := Lib.hid f7
          (go_wp2_with fail
           refine hSt.mono ?_
           rintro e wd ⟨rfl, t2⟩
           obtain ⟨hF3, kbd⟩ := hcont.out wd t2
           have kad := kb.trans (kbd.less (Z' := [qs] ++ [q7]) fun z hz => List.mem_append.2 (.inr hz))
           have kad1 := kad.less (Z' := [qs]) (by simp)
           clear t2 hSt hcont m0 m1 m2 m3 m4 m5 m6 m7 m8' m9
           (have m0 := (kad1.cell (o := 0) List.mem_cons_self).trans n0
            have m1 := (kad1.cell (o := 1) List.mem_cons_self).trans n1
            have m2 := (kad1.cell (o := 2) List.mem_cons_self).trans n2'
            have m3 := (kad1.cell (o := 3) List.mem_cons_self).trans n3
            have m4 := (kad1.cell (o := 4) List.mem_cons_self).trans n4
            have m5 := (kad1.cell (o := 5) List.mem_cons_self).trans n5
            have m6 := (kad1.cell (o := 6) List.mem_cons_self).trans n6
            have m7 := (kad1.cell (o := 7) List.mem_cons_self).trans n7
            have m8' := (kad1.cell (o := 8) List.mem_cons_self).trans n8
            have m9 := (kad1.cell (o := 9) List.mem_cons_self).trans n9)
           have v3 : ∀ k, k < 3 → wd.cell? ⟨q7, k, none⟩ = some (.bool (u k)) := fun k hk => (kad.cell (by simp)).trans ((kpa.cell (by simp)).trans (hv.out k hk))
           have i3 := kbd.ints i1.out hz1.out
           have fz3 : ∀ o, wd.frozen? ⟨q7, o, none⟩ = false := fun o => (kad.frozen (by simp)).trans ((kpa.frozen (by simp)).trans (hfz.out o))
           replace fz3 := Lib.hid fz3
           replace v3 := Lib.hid v3
           replace i3 := Lib.hid i3
           clear kad1 kbd kad
           (replace hqs : Hid (qs ∈ Z1 ++ ([qs] ++ [q7])) := hZ3.out.1
            replace hq7 : Hid (q7 ∈ Z1 ++ ([qs] ++ [q7])) := hZ3.out.2
            clear hZ3
            generalize Z1 ++ ([qs] ++ [q7]) = Z3 at hF3 hz1 hqs hq7)
           (have hD := hF3.do_ (Nat.le_refl _) (hox.out.below hF3.both.bel) (by omega)
            unfold Stepx.agg at hD
            replace hD := Lib.hid hD
            replace hF3 := Lib.hid hF3
            go_wp2_with fail
            refine hD.out.mono ?_
            rintro e w5 ⟨R, rfl, hF5, k5⟩
            have v5 : ∀ k, k < 3 → w5.cell? ⟨q7, k, none⟩ = some (.bool (u k)) := fun k hk => (k5.cell hq7.out).trans (v3.out k hk)
            have z5 : ∀ o, w5.frozen? ⟨q7, o, none⟩ = false := fun o => (k5.frozen hq7.out).trans (fz3.out o)
            replace z5 := Lib.hid z5
            have g5 : w5.cell? ⟨qs, 0, none⟩ = some (.int .u8 x.kind) := (k5.cell hqs.out).trans m0
            have i5 := k5.ints i3.out hz1.out
            have hsz5 := k5.size
            generalize hm8 : m.step x = m8 at hF5 hsu
            replace hm8 := Lib.hid hm8
            have hS := hF5.susp (Nat.le_refl _)
            clear hD hF3 m0 m1 m2 m3 m4 m5 m6 m7 m8' m9 v3 i3 k5
            replace v5 := Lib.hid v5
            replace i5 := Lib.hid i5
            replace hF5 := Lib.hid hF5
            go_wp2_with fail
            refine hS.mono ?_
            rintro e w6 ⟨A6, n6, c6, Z6, rfl, i6, z6, hF6, b6, lo6⟩
            have k6 := hF5.out.kp b6
            have v6 : ∀ k, k < 3 → w6.cell? ⟨q7, k, none⟩ = some (.bool (u k)) := fun k hk => (k6.cell hq7.out).trans (v5.out k hk)
            have fz6 : ∀ o, w6.frozen? ⟨q7, o, none⟩ = false := fun o => (k6.frozen hq7.out).trans (z5.out o)
            replace fz6 := Lib.hid fz6
            have g6 : w6.cell? ⟨qs, 0, none⟩ = some (.int .u8 x.kind) := (k6.cell hqs.out).trans g5
            have i6b := k6.ints i5.out hz1.out
            replace v6 := Lib.hid v6
            replace hF6 := Lib.hid hF6
            replace i6b := Lib.hid i6b
            replace i6 := Lib.hid i6
            clear hS hF5 v5 g5 i5 k6)
           (have hin := Lib.hid fun (k : Nat) W (hW : Below w6.heap.size w6 W) => law08_in A6 n6 c6 m8.suspects k W (i6.out.to hW)
            have hq3 := (hF6.out.low (List.mem_append.2 (.inr hq7.out)))
            go_wp2_with fail
            go_loopw [14] (fun ti wr => ∃ k : Nat, k ≤ 3 ∧ ti = .int .i64 k ∧ Below w6.heap.size w6 wr) (fun ti _ => 3 - (intOf ti).toNat)
            case atStart => exact ⟨0, Nat.zero_le _, rfl, Below.refl _ _⟩
            obtain ⟨k, hk, rfl, hbr⟩ := hrel
            obtain ⟨wq, rfl⟩ : ∃ x : World, x = wr := ⟨_, rfl⟩
            rcases Nat.lt_or_ge k 3 with hk3 | hk3
            case inl =>
              have hde : decide ((k : Int) ∈ m8.suspects) = u k := by
                have e1 := mem_susp m8 k
                have e2 := hsu.out k hk3
                rw [e2] at e1
                cases hu : u k <;> simp [hu] at e1 ⊢ <;> exact e1
              have hq := hin.out k
              rw [hde] at hq
              replace hde := Lib.hid hde
              have t7 : wq.cell? ⟨q7, k, none⟩ = some (.bool (u k)) := (hbr.cell (p := ⟨q7, k, none⟩) hq3).trans (v6.out k hk3)
              generalize u k = U at hq t7
              have hUU : (U == U) = true := by simp
              have hUV : (U != U) = false := by simp
              replace hq := Lib.hid hq
              go_wp2_with fail
              go_quiet ((with_reducible exact Calls.quiet_of_same (hq.out _ (below_drewN hbr _))))
              go_wp2_with fail
              go_roundw
              case rel => exact ⟨k + 1, by omega, by go_num, (by repeat (first | exact Below.refl _ _ | assumption | refine Below.drew ?_ | refine below_drewN ?_ _ | refine Below.alloc ?_ (by first | omega | (simp; try omega)) _ | refine Below.setCell ?_ (by first | omega | (simp; try omega)) _ | (refine Below.trans ?_ (Below.mono (by assumption) (by first | omega | (simp; try omega))))))⟩
              case measure => simp [intOf]; omega
            obtain rfl : k = 3 := by omega
            clear hk3 hk hin
            go_wp2_with fail
            go_roundw
            case rel => exact ⟨j + 1, m8, u, by omega, by go_num, (hF6.out.below (Nat.le_refl _) hbr).less (by intro z hz; simp at hz; subst hz; exact List.mem_append.2 (.inr hq7.out)), by unfold Hid; exact fun k hk => (hbr.cell (p := ⟨q7, k, none⟩) hq3).trans (v6.out k hk), hsu, by unfold Hid; exact fun o => ((bcell hbr).2 q7 o hq3).trans (fz6.out o)⟩
            case measure => simp [intOf]; omega))
    · have k0 : (x.kind == (7 : Int)) = false := by simpa using e7
      have kac1 := kac.less (Z' := [qs]) (by simp)
      (have m0 := (kac1.cell (o := 0) List.mem_cons_self).trans n0
       have m1 := (kac1.cell (o := 1) List.mem_cons_self).trans n1
       have m2 := (kac1.cell (o := 2) List.mem_cons_self).trans n2'
       have m3 := (kac1.cell (o := 3) List.mem_cons_self).trans n3
       have m4 := (kac1.cell (o := 4) List.mem_cons_self).trans n4
       have m5 := (kac1.cell (o := 5) List.mem_cons_self).trans n5
       have m6 := (kac1.cell (o := 6) List.mem_cons_self).trans n6
       have m7 := (kac1.cell (o := 7) List.mem_cons_self).trans n7
       have m8' := (kac1.cell (o := 8) List.mem_cons_self).trans n8
       have m9 := (kac1.cell (o := 9) List.mem_cons_self).trans n9)
      clear kac1
      replace hqs : Hid (qs ∈ Z1 ++ ([qs] ++ [q7])) := by unfold Hid; simp
      replace hq7 : Hid (q7 ∈ Z1 ++ ([qs] ++ [q7])) := by unfold Hid; simp
      generalize Z1 ++ ([qs] ++ [q7]) = Z3 at hF3 hz1 hqs hq7
      clear n0 n1 n2' n3 n4 n5 n6 n7 n8 n9 kac kbc kb kpa hF1 i1 y2 ok2 b11 lo2
      by_cases e8 : x.kind ≤ 7
      · have hsu : Hid (∀ k, k < 3 → (m.step x).susp[k]? = some (u k)) := by unfold Hid; intro k hk; rw [susp_low e7 e8 hkd.1]; exact hsu.out k hk
        (have hD := hF3.do_ (Nat.le_refl _) (hox.out.below hF3.both.bel) (by omega)
         unfold Stepx.agg at hD
         replace hD := Lib.hid hD
         replace hF3 := Lib.hid hF3
         go_wp2_with fail
         refine hD.out.mono ?_
         rintro e w5 ⟨R, rfl, hF5, k5⟩
         have v5 : ∀ k, k < 3 → w5.cell? ⟨q7, k, none⟩ = some (.bool (u k)) := fun k hk => (k5.cell hq7.out).trans (v3.out k hk)
         have z5 : ∀ o, w5.frozen? ⟨q7, o, none⟩ = false := fun o => (k5.frozen hq7.out).trans (fz3.out o)
         replace z5 := Lib.hid z5
         have g5 : w5.cell? ⟨qs, 0, none⟩ = some (.int .u8 x.kind) := (k5.cell hqs.out).trans m0
         have i5 := k5.ints i3.out hz1.out
         have hsz5 := k5.size
         generalize hm8 : m.step x = m8 at hF5 hsu
         replace hm8 := Lib.hid hm8
         have hS := hF5.susp (Nat.le_refl _)
         clear hD hF3 m0 m1 m2 m3 m4 m5 m6 m7 m8' m9 v3 i3 k5
         replace v5 := Lib.hid v5
         replace i5 := Lib.hid i5
         replace hF5 := Lib.hid hF5
         go_wp2_with fail
         refine hS.mono ?_
         rintro e w6 ⟨A6, n6, c6, Z6, rfl, i6, z6, hF6, b6, lo6⟩
         have k6 := hF5.out.kp b6
         have v6 : ∀ k, k < 3 → w6.cell? ⟨q7, k, none⟩ = some (.bool (u k)) := fun k hk => (k6.cell hq7.out).trans (v5.out k hk)
         have fz6 : ∀ o, w6.frozen? ⟨q7, o, none⟩ = false := fun o => (k6.frozen hq7.out).trans (z5.out o)
         replace fz6 := Lib.hid fz6
         have g6 : w6.cell? ⟨qs, 0, none⟩ = some (.int .u8 x.kind) := (k6.cell hqs.out).trans g5
         have i6b := k6.ints i5.out hz1.out
         replace v6 := Lib.hid v6
         replace hF6 := Lib.hid hF6
         replace i6b := Lib.hid i6b
         replace i6 := Lib.hid i6
         clear hS hF5 v5 g5 i5 k6)
        have hk78 : ¬ 7 < x.kind := by omega
        (have hin := Lib.hid fun (k : Nat) W (hW : Below w6.heap.size w6 W) => law08_in A6 n6 c6 m8.suspects k W (i6.out.to hW)
         have hq3 := (hF6.out.low (List.mem_append.2 (.inr hq7.out)))
         go_wp2_with fail
         go_loopw [14] (fun ti wr => ∃ k : Nat, k ≤ 3 ∧ ti = .int .i64 k ∧ Below w6.heap.size w6 wr) (fun ti _ => 3 - (intOf ti).toNat)
         case atStart => exact ⟨0, Nat.zero_le _, rfl, Below.refl _ _⟩
         obtain ⟨k, hk, rfl, hbr⟩ := hrel
         obtain ⟨wq, rfl⟩ : ∃ x : World, x = wr := ⟨_, rfl⟩
         rcases Nat.lt_or_ge k 3 with hk3 | hk3
         case inl =>
           have hde : decide ((k : Int) ∈ m8.suspects) = u k := by
             have e1 := mem_susp m8 k
             have e2 := hsu.out k hk3
             rw [e2] at e1
             cases hu : u k <;> simp [hu] at e1 ⊢ <;> exact e1
           have hq := hin.out k
           rw [hde] at hq
           replace hde := Lib.hid hde
           have t7 : wq.cell? ⟨q7, k, none⟩ = some (.bool (u k)) := (hbr.cell (p := ⟨q7, k, none⟩) hq3).trans (v6.out k hk3)
           generalize u k = U at hq t7
           have hUU : (U == U) = true := by simp
           have hUV : (U != U) = false := by simp
           replace hq := Lib.hid hq
           go_wp2_with fail
           go_quiet ((with_reducible exact Calls.quiet_of_same (hq.out _ (below_drewN hbr _))))
           go_wp2_with fail
           go_roundw
           case rel => exact ⟨k + 1, by omega, by go_num, (by repeat (first | exact Below.refl _ _ | assumption | refine Below.drew ?_ | refine below_drewN ?_ _ | refine Below.alloc ?_ (by first | omega | (simp; try omega)) _ | refine Below.setCell ?_ (by first | omega | (simp; try omega)) _ | (refine Below.trans ?_ (Below.mono (by assumption) (by first | omega | (simp; try omega))))))⟩
           case measure => simp [intOf]; omega
         obtain rfl : k = 3 := by omega
         clear hk3 hk hin
         go_wp2_with fail
         go_roundw
         case rel => exact ⟨j + 1, m8, u, by omega, by go_num, (hF6.out.below (Nat.le_refl _) hbr).less (by intro z hz; simp at hz; subst hz; exact List.mem_append.2 (.inr hq7.out)), by unfold Hid; exact fun k hk => (hbr.cell (p := ⟨q7, k, none⟩) hq3).trans (v6.out k hk), hsu, by unfold Hid; exact fun o => ((bcell hbr).2 q7 o hq3).trans (fz6.out o)⟩
         case measure => simp [intOf]; omega)
      · have hk78 : 7 < x.kind := by omega
        have hml : (m.step x).susp.length = 3 := by rw [step_clear hk78]; unfold Wld.susp; rw [List.length_map, clear_len]; exact hm3
        obtain ⟨u8, hsu8⟩ : ∃ u8 : Nat → Bool, Hid (∀ k, k < 3 → (m.step x).susp[k]? = some (u8 k)) := ⟨fun k => (m.step x).susp.getD k false, fun k hk => by dsimp only; rw [List.getD_eq_getElem?_getD, List.getElem?_eq_getElem (by omega)]; rfl⟩
        have hlaw : Hid (∀ k, k < 3 → (u8 k = true → u k = true) ∧ ((m.step x).up k = false → u k = true → u8 k = true)) := by
          unfold Hid
          intro k hk
          have c1 := susp_clear m k
          rw [← step_clear hk78, hsu8.out k hk, hsu.out k hk] at c1
          simpa using c1
        have hsu0 := hsu
        replace hsu := hsu8
        clear hsu8 hml
        have hq7q : q7 < wc.heap.size := hF3.low hq7.out
        have hlo1 : ∀ z ∈ Z1, z ≠ q7 := fun z hz => by have := lo1 z hz; omega
        (have hD := hF3.do_ (Nat.le_refl _) (hox.out.below hF3.both.bel) (by omega)
         unfold Stepx.agg at hD
         replace hD := Lib.hid hD
         replace hF3 := Lib.hid hF3
         go_wp2_with fail
         refine hD.out.mono ?_
         rintro e w5 ⟨R, rfl, hF5, k5⟩
         have v5 : ∀ k, k < 3 → w5.cell? ⟨q7, k, none⟩ = some (.bool (u k)) := fun k hk => (k5.cell hq7.out).trans (v3.out k hk)
         have z5 : ∀ o, w5.frozen? ⟨q7, o, none⟩ = false := fun o => (k5.frozen hq7.out).trans (fz3.out o)
         replace z5 := Lib.hid z5
         have g5 : w5.cell? ⟨qs, 0, none⟩ = some (.int .u8 x.kind) := (k5.cell hqs.out).trans m0
         have i5 := k5.ints i3.out hz1.out
         have hsz5 := k5.size
         generalize hm8 : m.step x = m8 at hF5 hsu
         replace hm8 := Lib.hid hm8
         have hS := hF5.susp (Nat.le_refl _)
         clear hD hF3 m0 m1 m2 m3 m4 m5 m6 m7 m8' m9 v3 i3 k5
         replace v5 := Lib.hid v5
         replace i5 := Lib.hid i5
         replace hF5 := Lib.hid hF5
         go_wp2_with fail
         refine hS.mono ?_
         rintro e w6 ⟨A6, n6, c6, Z6, rfl, i6, z6, hF6, b6, lo6⟩
         have k6 := hF5.out.kp b6
         have v6 : ∀ k, k < 3 → w6.cell? ⟨q7, k, none⟩ = some (.bool (u k)) := fun k hk => (k6.cell hq7.out).trans (v5.out k hk)
         have fz6 : ∀ o, w6.frozen? ⟨q7, o, none⟩ = false := fun o => (k6.frozen hq7.out).trans (z5.out o)
         replace fz6 := Lib.hid fz6
         have g6 : w6.cell? ⟨qs, 0, none⟩ = some (.int .u8 x.kind) := (k6.cell hqs.out).trans g5
         have i6b := k6.ints i5.out hz1.out
         replace v6 := Lib.hid v6
         replace hF6 := Lib.hid hF6
         replace i6b := Lib.hid i6b
         replace i6 := Lib.hid i6
         clear hS hF5 v5 g5 i5 k6)
        have hlaw' := hlaw.out
        rw [hm8.out] at hlaw'
        have hq65 : q7 < w5.heap.size := Nat.lt_of_lt_of_le hq7q hsz5
        go_wp2_with fail
        go_loopw [13] (fun ti wr => ∃ i : Nat, i ≤ 3 ∧ ti = .int .i64 i ∧ Frm w.heap.size w wr b (j + 1) c9 m8 m8 (Z6 ++ Z3) ∧ Hid (∀ k, k < 3 → wr.cell? ⟨q7, k, none⟩ = some (.bool (if k < i then u8 k else u k))) ∧ Hid (IntsAt wr wr.heap.size A6 n6 m8.suspects) ∧ Hid (IntsAt wr wr.heap.size A1 n1' m.suspects) ∧ Hid (∀ o, wr.frozen? ⟨q7, o, none⟩ = false)) (fun ti _ => 3 - (intOf ti).toNat)
        case atStart => exact ⟨0, Nat.zero_le _, rfl, hF6.out, by unfold Hid; intro k hk; rw [v6.out k hk]; simp, i6, i6b, fz6⟩
        clear v6 hF6 i6 i6b fz6
        obtain ⟨i, hi, rfl, hF6, hvv, i6, i6b, fz6⟩ := hrel
        obtain ⟨wq, rfl⟩ : ∃ x : World, x = wr := ⟨_, rfl⟩
        rcases Nat.lt_or_ge i 3 with hi3 | hi3
        case inl =>
          have hde : decide ((i : Int) ∈ m8.suspects) = u8 i := by
            have e1 := mem_susp m8 i
            rw [hsu.out i hi3] at e1
            cases hu : u8 i <;> simp [hu] at e1 ⊢ <;> exact e1
          have hde1 : decide ((i : Int) ∈ m.suspects) = u i := by
            have e1 := mem_susp m i
            rw [hsu0.out i hi3] at e1
            cases hu : u i <;> simp [hu] at e1 ⊢ <;> exact e1
          have hl8 := hlaw' i hi3
          have tq := hvv.out i hi3
          have fzq := fz6.out i
          have fzs : Hid (∀ o, (wq.setCell ⟨q7, i, none⟩ (.bool (u8 i))).frozen? ⟨q7, o, none⟩ = false) := by unfold Hid; exact fun o => (frozen_set _ _ _ _ _).trans (fz6.out o)
          have hq7m : q7 ∈ Z6 ++ Z3 := List.mem_append.2 (.inr hq7.out)
          have hFs := hF6.set hq7m (o := i) (.bool (u8 i))
          have ks6 := Kp.set (Z := Z6) wq (q := q7) (o := i) (.bool (u8 i)) (fun z hz => by have := lo6 z hz; omega)
          have ks1 := Kp.set (Z := Z1) wq (q := q7) (o := i) (.bool (u8 i)) hlo1
          have j6 := ks6.ints i6.out z6
          have j1 := ks1.ints i6b.out z1
          have vv : ∀ k, k < 3 → (wq.setCell ⟨q7, i, none⟩ (.bool (u8 i))).cell? ⟨q7, k, none⟩ = some (.bool (if k < i + 1 then u8 k else u k)) := fun k hk => by
            by_cases e : k = i
            · subst e
              rw [World.cell?_setCell_same _ _ _ tq, if_pos (by omega)]
            · rw [World.cell?_setCell_other _ _ _ _ (fun h => by simp only [Addr.mk.injEq] at h; omega), hvv.out k hk]
              by_cases e2 : k < i
              · rw [if_pos e2, if_pos (by omega)]
              · rw [if_neg e2, if_neg (by omega)]
          replace vv := Lib.hid vv
          have hsay : ∀ W, IntsAt W W.heap.size A6 n6 m8.suspects → Calls Tryz.prog 26 #[.slice A6 n6 c6, .int .i64 i] W fun e w' => e = .returned (.bool (u8 i)) ∧ W = w' := fun W hW => by
            rw [← hde]
            exact (law08_in A6 n6 c6 m8.suspects i W hW).mono fun e w' he => ⟨he.1, he.2.symm⟩
          have hsay1 : ∀ W, IntsAt W W.heap.size A1 n1' m.suspects → Calls Tryz.prog 26 #[.slice A1 n1' c1, .int .i64 i] W fun e w' => e = .returned (.bool (u i)) ∧ W = w' := fun W hW => by
            rw [← hde1]
            exact (law08_in A1 n1' c1 m.suspects i W hW).mono fun e w' he => ⟨he.1, he.2.symm⟩
          have hs0 := hsay wq i6.out
          have hs2 := hsay _ j6
          have hs1 := hsay1 _ j1
          have hsu9 := hFs.ups (i : Int)
          replace hde := Lib.hid hde
          replace hde1 := Lib.hid hde1
          replace hFs := Lib.hid hFs
          replace j6 := Lib.hid j6
          replace j1 := Lib.hid j1
          generalize u i = P at hs1 hl8
          generalize u8 i = U at hs0 hs2 hl8 hFs j6 j1 vv hsu9 ks6 ks1 hs1 fzs
          generalize m8.up (i : Int) = UP at hl8 hsu9
          clear hsay hsay1 ks6 ks1 hF6
          go_wp2_with fail
          refine hs0.mono ?_
          rintro e wz ⟨rfl, rfl⟩
          clear hs0
          go_upto_region 23 with fail
          generalize wq.setCell ⟨q7, i, none⟩ (.bool U) = ws at hs2 hs1 hFs j6 j1 vv hsu9 fzs ⊢
          have hU := hl8.1
          have hV := hl8.2
          clear hl8
          cases U
          · cases UP
            · obtain rfl : P = false := by
                cases P
                · rfl
                · exact absurd (hV rfl rfl) (by simp)
              clear hU hV
              go_wp2_with fail
              (refine (hs2).mono ?_
               rintro e wz ⟨rfl, rfl⟩
               go_wp2_with fail)
              (refine (hsu9).mono ?_
               rintro e wz ⟨rfl, rfl⟩
               go_wp2_with fail)
              (refine (hs1).mono ?_
               rintro e wz ⟨rfl, rfl⟩
               go_wp2_with fail)
              go_roundw
              case rel => exact ⟨i + 1, by omega, by go_num, hFs.out, vv, j6, j1, fzs⟩
              case measure => simp [intOf]; omega
            · clear hU hV
              go_wp2_with fail
              (refine (hs2).mono ?_
               rintro e wz ⟨rfl, rfl⟩
               go_wp2_with fail)
              (refine (hsu9).mono ?_
               rintro e wz ⟨rfl, rfl⟩
               go_wp2_with fail)
              go_roundw
              case rel => exact ⟨i + 1, by omega, by go_num, hFs.out, vv, j6, j1, fzs⟩
              case measure => simp [intOf]; omega
          · obtain rfl : P = true := hU rfl
            clear hU hV
            cases UP
            · go_wp2_with fail
              (refine (hs2).mono ?_
               rintro e wz ⟨rfl, rfl⟩
               go_wp2_with fail)
              (refine (hs1).mono ?_
               rintro e wz ⟨rfl, rfl⟩
               go_wp2_with fail)
              (refine (hsu9).mono ?_
               rintro e wz ⟨rfl, rfl⟩
               go_wp2_with fail)
              (refine (hs1).mono ?_
               rintro e wz ⟨rfl, rfl⟩
               go_wp2_with fail)
              (refine (hs2).mono ?_
               rintro e wz ⟨rfl, rfl⟩
               go_wp2_with fail)
              go_roundw
              case rel => exact ⟨i + 1, by omega, by go_num, hFs.out, vv, j6, j1, fzs⟩
              case measure => simp [intOf]; omega
            · go_wp2_with fail
              (refine (hs2).mono ?_
               rintro e wz ⟨rfl, rfl⟩
               go_wp2_with fail)
              (refine (hs1).mono ?_
               rintro e wz ⟨rfl, rfl⟩
               go_wp2_with fail)
              (refine (hsu9).mono ?_
               rintro e wz ⟨rfl, rfl⟩
               go_wp2_with fail)
              go_roundw
              case rel => exact ⟨i + 1, by omega, by go_num, hFs.out, vv, j6, j1, fzs⟩
              case measure => simp [intOf]; omega
        obtain rfl : i = 3 := by omega
        have v8 : Hid (∀ k, k < 3 → wq.cell? ⟨q7, k, none⟩ = some (.bool (u8 k))) := by unfold Hid; intro k hk; rw [hvv.out k hk, if_pos hk]
        have hlow := hF6.low (List.mem_append.2 (.inr hq7.out))
        replace hF6 := Lib.hid hF6
        clear hvv hi hi3
        (have hin := Lib.hid fun (k : Nat) W (hW : Below wq.heap.size wq W) => law08_in A6 n6 c6 m8.suspects k W (i6.out.to hW)
         have hq3 := hlow
         go_wp2_with fail
         go_loopw [14] (fun ti wr => ∃ k : Nat, k ≤ 3 ∧ ti = .int .i64 k ∧ Below wq.heap.size wq wr) (fun ti _ => 3 - (intOf ti).toNat)
         case atStart => exact ⟨0, Nat.zero_le _, rfl, Below.refl _ _⟩
         obtain ⟨k, hk, rfl, hbr⟩ := hrel
         obtain ⟨wq, rfl⟩ : ∃ x : World, x = wr := ⟨_, rfl⟩
         rcases Nat.lt_or_ge k 3 with hk3 | hk3
         case inl =>
           have hde : decide ((k : Int) ∈ m8.suspects) = u8 k := by
             have e1 := mem_susp m8 k
             have e2 := hsu.out k hk3
             rw [e2] at e1
             cases hu : u8 k <;> simp [hu] at e1 ⊢ <;> exact e1
           have hq := hin.out k
           rw [hde] at hq
           replace hde := Lib.hid hde
           have t7 : wq.cell? ⟨q7, k, none⟩ = some (.bool (u8 k)) := (hbr.cell (p := ⟨q7, k, none⟩) hq3).trans (v8.out k hk3)
           generalize u8 k = U at hq t7
           have hUU : (U == U) = true := by simp
           have hUV : (U != U) = false := by simp
           replace hq := Lib.hid hq
           go_wp2_with fail
           go_quiet ((with_reducible exact Calls.quiet_of_same (hq.out _ (below_drewN hbr _))))
           go_wp2_with fail
           go_roundw
           case rel => exact ⟨k + 1, by omega, by go_num, (by repeat (first | exact Below.refl _ _ | assumption | refine Below.drew ?_ | refine below_drewN ?_ _ | refine Below.alloc ?_ (by first | omega | (simp; try omega)) _ | refine Below.setCell ?_ (by first | omega | (simp; try omega)) _ | (refine Below.trans ?_ (Below.mono (by assumption) (by first | omega | (simp; try omega))))))⟩
           case measure => simp [intOf]; omega
         obtain rfl : k = 3 := by omega
         clear hk3 hk hin
         go_wp2_with fail
         go_roundw
         case rel => exact ⟨j + 1, m8, u8, by omega, by go_num, (hF6.out.below (Nat.le_refl _) hbr).less (by intro z hz; simp at hz; subst hz; exact List.mem_append.2 (.inr hq7.out)), by unfold Hid; exact fun k hk => (hbr.cell (p := ⟨q7, k, none⟩) hq3).trans (v8.out k hk), hsu, by unfold Hid; exact fun o => ((bcell hbr).2 q7 o hq3).trans (fz6.out o)⟩
         case measure => simp [intOf]; omega)
  obtain rfl : j = n := by omega
  have hbe := hF.both.bel
  clear hF hv hsu hge hj hfz
  go_wp2_with fail
  go_ret
  exact ⟨rfl, hbe⟩
end Go.Proofs.YtfkonpmnclknaaaGreat
