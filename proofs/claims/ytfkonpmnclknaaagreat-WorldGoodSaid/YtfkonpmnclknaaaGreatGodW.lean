/-
  The walk of WorldGood.
-/
import Derived.Test.YtfkonpmnclknaaaGreatGodL
namespace Go.Proofs.YtfkonpmnclknaaaGreat
open Go.ChangeShapes Go.WideShapes Go.ChangeAt Go.RowKit Go.Deep
attribute [local go_sem ↓] Go.wp_at_zero Go.wp_at_succ

section
variable {H : Type} {enc : TypeId × Value → H} {W : World} {base fuel : Nat} {v : Value} {d : DataW H} {p : List MemPlace} {x : DataW H × List MemPlace}
theorem array2 {α : Type} {a : Array α} (h : a.size = 2) : ∃ x0 x1, a = #[x0, x1] := by
  obtain ⟨l⟩ := a
  match l, h with
  | [x0, x1], _ => exact ⟨x0, x1, rfl⟩
set_option maxRecDepth 100000 in
theorem open_object (hv : Value.okWide Tryz.prog W .any base 24 v) (h : DataW.Trod enc Tryz.prog W 0 (fun _ => true) true 24 v d p) :
    ∃ o : Ob, v = .agg #[.string o.1, .string o.2] ∧ ((∀ q ∈ d.weights Tryz.prog 24, q ≤ reachBytes) → o.1.size ≤ reachBytes ∧ o.2.size ≤ reachBytes) := by
  obtain ⟨cs, rfl, hsz⟩ := okWide_struct Tryz.underlying24 hv
  obtain ⟨c0, c1, rfl⟩ := array2 (hsz.trans (show Tryz.prog.cellsOf 24 = 2 by kernel_rfl))
  obtain ⟨fuel, hf⟩ := h
  rw [show (Value.agg #[c0, c1]).cells.toList = [c0, c1] by simp [Value.cells]] at hf
  obtain ⟨os, n3, _, hoe, _, hol, hfo⟩ := DataW.trod_struct Tryz.underlying24 hf
  have hC4 : Tryz.prog.cellsOf 9 = 1 := by kernel_rfl
  have g2 : ∀ i, i < 2 → ∃ y, os[i]? = some y := fun i hi => ⟨_, List.getElem?_eq_getElem (by rw [hol]; exact hi)⟩
  obtain ⟨z0, f0⟩ := g2 0 (by omega)
  obtain ⟨z1, f1⟩ := g2 1 (by omega)
  have u0 : DataW.trod enc Tryz.prog W 0 (fun _ => true) true n3 9 (([c0, c1].drop 0).take (Tryz.prog.cellsOf 9)) = some z0 := (hfo 0 _ rfl).trans f0
  rw [hC4] at u0
  replace u0 : DataW.trod enc Tryz.prog W 0 (fun _ => true) true n3 9 [c0] = some z0 := u0
  have u1 : DataW.trod enc Tryz.prog W 0 (fun _ => true) true n3 9 (([c0, c1].drop 1).take (Tryz.prog.cellsOf 9)) = some z1 := (hfo 1 _ rfl).trans f1
  rw [hC4] at u1
  replace u1 : DataW.trod enc Tryz.prog W 0 (fun _ => true) true n3 9 [c1] = some z1 := u1
  obtain ⟨s0, rfl, w0⟩ := strW u0
  obtain ⟨s1, rfl, w1⟩ := strW u1
  have ho : ∀ (j : Nat) (y : DataW H × List MemPlace), j < 2 → os[j]? = some y → ∀ q ∈ y.1.weights Tryz.prog 9, q ∈ d.weights Tryz.prog 24 := fun j y hj h2 q h3 => by
    rw [(Prod.mk.inj hoe).1, DataW.weights, Tryz.underlying24]
    refine DataW.weights_mem_each (j := j) (t := 9) (d := y.1) ?_ (by rw [List.getElem?_map, h2]; rfl) q h3
    match j, hj with
    | 0, _ => rfl
    | 1, _ => rfl
  exact ⟨(s0, s1), rfl, fun hq => ⟨hq _ (ho 0 z0 (by omega) f0 _ w0), hq _ (ho 1 z1 (by omega) f1 _ w1)⟩⟩
end

section
variable {B b N M c : Nat} {m x : Wld} {w wr : World}
theorem StepIn.up_ {W : World} {B B' : Nat} {a : Stepx} (h : StepIn W B a) (hB : B ≤ B') : StepIn W B' a := { h with row := h.row.more hB, keep := fun x hx => (h.keep x hx).more hB }
theorem Both.put (h : Both B w wr b N c m x) (hB : B ≤ w.heap.size) (i : Int) (o : Ob) (hn : o.1.size ≤ maxLen) (hd : o.2.size ≤ maxLen) (hN : N + 1 ≤ 1000000) :
    Calls Tryz.prog 14 #[.pointer (some ⟨b, 0, none⟩), .int .i64 i, .agg #[.string o.1, .string o.2]] wr fun e w' => e = .returned (.int .i64 (m.err i fun s => (s.put o).2)) ∧ Both B w w' b (N + 1) c (m.go i fun s => (s.put o).1) x := by
  obtain ⟨X, Y, h1, h2, h3, h4, h5⟩ := h
  have hcm := h1.cm
  refine (world_Put b N X m i o hn hd wr h1.p hN (by omega)).mono ?_
  rintro e w' ⟨rfl, t1⟩
  have hc9 := go_calls m i fun s => (s.put o).1
  have h1' := h1.more (Nat.le_succ N) hN
  exact ⟨rfl, Both.from h2 h3 hB (WTo.done h1 (Below.refl _ _) t1 (RWTo.same (h1.ref_after (Below.refl _ _) t1) (Below.refl _ _)) h1'.ok (by omega) h1'.cx (by rw [go_len]; exact h1.nm) h1.nx) (by rw [go_len]; exact h4) h5⟩
theorem Both.sync (h : Both B w wr b N c m x) (hB : B ≤ w.heap.size) (i : Int) (hN : N + 1 ≤ 1000000) :
    Calls Tryz.prog 15 #[.pointer (some ⟨b, 0, none⟩), .int .i64 i] wr fun e w' => e = .returned (.int .i64 (m.err i fun s => s.sync.2)) ∧ Both B w w' b (N + 1) c (m.go i fun s => s.sync.1) x := by
  obtain ⟨X, Y, h1, h2, h3, h4, h5⟩ := h
  have hcm := h1.cm
  refine (world_Sync b N X m i wr h1.p (by omega) (by omega)).mono ?_
  rintro e w' ⟨rfl, t1⟩
  have hc9 := go_calls m i fun s => s.sync.1
  have h1' := h1.more (Nat.le_succ N) hN
  exact ⟨rfl, Both.from h2 h3 hB (WTo.done h1 (Below.refl _ _) (t1.more (Nat.le_succ N) hN) (RWTo.same (h1.ref_after (Below.refl _ _) t1) (Below.refl _ _)) h1'.ok (by omega) h1'.cx (by rw [go_len]; exact h1.nm) h1.nx) (by rw [go_len]; exact h4) h5⟩
theorem Both.get (h : Both B w wr b N c m x) (hB : B ≤ w.heap.size) (i : Int) (n : ByteArray) (hn : n.size ≤ maxLen) (hN : N + 1 ≤ 1000000) :
    Calls Tryz.prog 17 #[.pointer (some ⟨b, 0, none⟩), .int .i64 i, .string n] wr fun e w' => e = .returned (.tuple #[.string (m.get i n).1, .int .i64 (m.get i n).2]) ∧ Below B w w' := by
  obtain ⟨X, Y, h1, h2, h3, h4, h5⟩ := h
  have hcm := h1.cm
  refine (world_Get b N X m i n hn wr h1.p (by omega) (by omega)).mono ?_
  rintro e w' ⟨rfl, X1, t1, t2, t3⟩
  exact ⟨rfl, h3.trans (t2.below (Nat.le_trans hB h3.size) fun i hi => h2 i (List.mem_append.2 (.inl hi)))⟩
end

set_option maxHeartbeats 8000000 in
set_option maxRecDepth 100000 in
theorem worldGood_walk (A : Option Addr) (n c : Nat) (l : List Stepx) (A2 : Option Addr) (n2 c2 : Nat) (l2 : List Stepx) (si : Int) (o : Ob) (hon : o.1.size ≤ maxLen) (A5 : Option Addr) (n5 c5 : Nat) (ks : List Surv) (w9 : World) (h : StepsAt w9 w9.heap.size A n l ∧ (∀ a ∈ l, StepIn w9 w9.heap.size a)) (h2 : StepsAt w9 w9.heap.size A2 n2 l2 ∧ (∀ a ∈ l2, StepIn w9 w9.heap.size a))
    (h5 : SurvsAt w9 w9.heap.size A5 n5 ks ∧ (∀ a ∈ ks, IntsAt w9 w9.heap.size a.A a.n a.keep)) :
    Calls Tryz.prog 3 #[.slice A n c, .slice A2 n2 c2, .int .i64 si, .agg #[.string o.1, .string o.2], .slice A5 n5 c5] w9 fun e w' => e = .returned (.bool true) ∧ Below w9.heap.size w9 w' := by
  have hl := Lib.hid h.1.1
  have hl2 := Lib.hid h2.1.1
  have hl5 := Lib.hid h5.1.1
  have hn59 := h5.1.2.1
  have hA : Below w9.heap.size w9 (w9.alloc (.cells #[.string o.1, .string o.2] 24)) := (Below.refl _ w9).alloc (Nat.le_refl _) _
  have x0 := newCell w9 #[.string o.1, .string o.2] 24 (0, 0)
  have r0 := x0 0
  have r1 := x0 1
  have hz0 : w9.heap.size < (w9.alloc (.cells #[.string o.1, .string o.2] 24)).heap.size := by simp
  clear x0
  go_enter Tryz.func3, Tryz.ntmps3
  go_wp2_with fail
  generalize hgw : w9.alloc (.cells #[.string o.1, .string o.2] 24) = w at hA r0 r1 hz0 ⊢
  clear hgw
  simp at r0 r1
  replace h : StepsAt w w.heap.size A n l ∧ (∀ a ∈ l, StepIn w w.heap.size a) := ⟨h.1.to hA, fun a ha => ((h.2 a ha).below hA).up_ hA.size⟩
  replace h2 : StepsAt w w.heap.size A2 n2 l2 ∧ (∀ a ∈ l2, StepIn w w.heap.size a) := ⟨h2.1.to hA, fun a ha => ((h2.2 a ha).below hA).up_ hA.size⟩
  replace h5 : SurvsAt w w.heap.size A5 n5 ks ∧ (∀ a ∈ ks, IntsAt w w.heap.size a.A a.n a.keep) := ⟨h5.1.to hA, fun a ha => (h5.2 a ha).to hA⟩
  have hend := Lib.hid fun W (y : Below w.heap.size w W) => hA.trans (y.mono hA.size)
  generalize w9.heap.size = q9 at r0 r1 hz0 ⊢
  (refine (law08_long A n c l _ (h).1 (h).2).mono ?_
   rintro e wz ⟨he, hw⟩
   obtain rfl := hw.symm
   rcases he with ⟨rfl, hsh⟩ | rfl
   case inr =>
     go_wp2_with fail
     refine (law08_awake _).mono ?_
     rintro e wa ⟨rfl, ba⟩
     go_wp2_with fail
     go_ret
     exact ⟨rfl, by first | exact ba | exact hend.out _ ba⟩
   replace hsh := Lib.hid hsh
   go_wp2_with fail)
  by_cases hbd : 70000 < o.2.size
  · have hg1 : decide ((70000 : Int) < (o.2.size : Int)) = true := by simp; omega
    (refine (law08_long A2 n2 c2 l2 _ (h2).1 (h2).2).mono ?_
     rintro e wz ⟨he, hw⟩
     obtain rfl := hw.symm
     rcases he with ⟨rfl, hsh2⟩ | rfl
     case inr =>
       go_wp2_with fail
       refine (law08_awake _).mono ?_
       rintro e wa ⟨rfl, ba⟩
       go_wp2_with fail
       go_ret
       exact ⟨rfl, by first | exact ba | exact hend.out _ ba⟩
     replace hsh2 := Lib.hid hsh2
     go_wp2_with fail)
    refine (law08_awake _).mono ?_
    rintro e wa ⟨rfl, ba⟩
    go_wp2_with fail
    go_ret
    exact ⟨rfl, hend.out _ ba⟩
  have hg1 : decide ((70000 : Int) < (o.2.size : Int)) = false := by simp; omega
  by_cases hbn : 50 < n5
  · have hg2 : decide ((50 : Int) < (n5 : Int)) = true := by simp; omega
    (refine (law08_long A2 n2 c2 l2 _ (h2).1 (h2).2).mono ?_
     rintro e wz ⟨he, hw⟩
     obtain rfl := hw.symm
     rcases he with ⟨rfl, hsh2⟩ | rfl
     case inr =>
       go_wp2_with fail
       refine (law08_awake _).mono ?_
       rintro e wa ⟨rfl, ba⟩
       go_wp2_with fail
       go_ret
       exact ⟨rfl, by first | exact ba | exact hend.out _ ba⟩
     replace hsh2 := Lib.hid hsh2
     go_wp2_with fail)
    refine (law08_awake _).mono ?_
    rintro e wa ⟨rfl, ba⟩
    go_wp2_with fail
    go_ret
    exact ⟨rfl, hend.out _ ba⟩
  have hg2 : decide ((50 : Int) < (n5 : Int)) = false := by simp; omega
  (refine (law08_long A2 n2 c2 l2 _ (h2).1 (h2).2).mono ?_
   rintro e wz ⟨he, hw⟩
   obtain rfl := hw.symm
   rcases he with ⟨rfl, hsh2⟩ | rfl
   case inr =>
     go_wp2_with fail
     refine (law08_awake _).mono ?_
     rintro e wa ⟨rfl, ba⟩
     go_wp2_with fail
     go_ret
     exact ⟨rfl, by first | exact ba | exact hend.out _ ba⟩
   replace hsh2 := Lib.hid hsh2
   go_wp2_with fail)
  have hn9 : n ≤ 60 := by have := hsh.out.1; have := hl.out; omega
  have hn29 : n2 ≤ 60 := by have := hsh2.out.1; have := hl2.out; omega
  have hod : o.2.size ≤ maxLen := by simp only [maxLen]; omega
  refine (law08_awake w).mono ?_
  rintro e w1 ⟨rfl, y1⟩
  go_wp2_with fail
  go_loopw [11] (fun tk wr => ∃ k : Nat, k ≤ n5 ∧ tk = .int .i64 k ∧ w1 = wr) (fun tk _ => n5 - (intOf tk).toNat)
  case atStart => exact ⟨0, Nat.zero_le _, rfl, rfl⟩
  obtain ⟨k, hk, rfl, rfl⟩ := hrel
  rcases Nat.lt_or_ge k n5 with hkl | hge
  case inl =>
    obtain ⟨b5, off5, y, e5, hb5, hy, u0⟩ := (h5.1.below y1).surv hkl
    replace hy := Lib.hid hy
    obtain rfl := e5
    by_cases g4 : 100 < y.n
    · go_wp2_with fail
      go_ret
      exact ⟨rfl, hend.out _ y1⟩
    · go_wp2_with fail
      go_roundw
      case rel => exact ⟨k + 1, by omega, by go_num, trivial⟩
      case measure => simp [intOf]; omega
  obtain rfl : n5 = k := by omega
  clear hge hk
  go_wp2_with fail
  (refine (world_New 3 (by decide) (by decide) w1).mono ?_
   rintro e w2 ⟨rfl, X2, p2, lo2, y2⟩
   generalize hb9 : w1.heap.size = b at p2 ⊢
   replace hb9 := Lib.hid hb9
   go_wp2_with fail
   refine (ref08_New 3 (by decide) (by decide) w2).mono ?_
   rintro e w3 ⟨c9, Y3, rfl, p3, lo3, y3⟩
   have hP := Both.new y1 y1.size p2 lo2 y2 p3 lo3 y3
   clear p2 lo2 y2 p3 lo3 y3
   go_wp2_with fail)
  (go_loopw [16] (fun ti wr => ∃ (j : Nat) (m : Wld), j ≤ n ∧ ti = .int .i64 j ∧ Both w.heap.size w wr b j c9 m m) (fun ti _ => n - (intOf ti).toNat)
   case atStart => exact ⟨0, _, Nat.zero_le _, rfl, hP⟩
   obtain ⟨j, m, hj, rfl, hP⟩ := hrel
   obtain ⟨wp, rfl⟩ : ∃ x : World, x = wr := ⟨_, rfl⟩
   rcases Nat.lt_or_ge j n with hlt | hge
   case inl =>
     obtain ⟨b0, off, x, rfl, hb0, hx, q0, q1, q2, q3, q4, q5, q6, q7, q8, q9⟩ := ((h).1.below hP.bel).stp hlt
     have hxs := (hsh).out.2 x (List.mem_of_getElem? hx)
     have hD := hP.do_ (Nat.le_refl _) (((h).2 x (List.mem_of_getElem? hx)).below hP.bel |>.ok hxs.1 hxs.2.1) (by omega)
     unfold Stepx.agg at hD
     replace hD := Lib.hid hD
     replace hP := Lib.hid hP
     replace hx := Lib.hid hx
     clear hxs
     go_wp2_with fail
     refine hD.out.mono ?_
     rintro e w7 ⟨R, rfl, _, p7⟩
     replace p7 := Lib.hid p7
     clear hD hP
     go_wp2_with fail
     go_roundw
     case rel => exact ⟨j + 1, _, by omega, by go_num, p7.out⟩
     case measure => simp [intOf]; omega
   obtain rfl : j = n := by omega
   clear hj hge)
  have hqq : q9 < wp.heap.size := by have := hP.bel.size; omega
  have s0 := (hP.bel.cell (p := ⟨q9, 0, none⟩) hz0).trans r0
  have s1 := (hP.bel.cell (p := ⟨q9, 1, none⟩) hz0).trans r1
  have hC1 := hP.put (Nat.le_refl _) si o hon hod (by omega)
  have hlaw := Lib.hid fun (e1 : (m.err si fun s => (s.put o).2) = 0) e2 => KeptW.new (m := m) (i := si) (o := o) e1 e2
  generalize (m.err si fun s => (s.put o).2) = E1 at hC1 hlaw
  generalize (m.go si fun s => (s.put o).1) = m1 at hC1 hlaw
  replace hP := Lib.hid hP
  by_cases hE1 : E1 = 0
  rotate_left
  · have hne : (E1 != (0 : Int)) = true := by simpa using hE1
    go_wp2_with fail
    refine hC1.mono ?_
    rintro e w4 ⟨rfl, p4⟩
    go_wp2_with fail
    go_ret
    exact ⟨rfl, hend.out _ p4.bel⟩
  subst hE1
  go_wp2_with fail
  refine hC1.mono ?_
  rintro e w4 ⟨rfl, p4⟩
  clear hC1 hP s0 s1
  have hC2 := p4.sync (Nat.le_refl _) si (by omega)
  replace hlaw := Lib.hid (hlaw.out (by first | trivial | rfl))
  generalize (m1.err si fun s => s.sync.2) = E2 at hC2 hlaw
  generalize (m1.go si fun s => s.sync.1) = m2 at hC2 hlaw
  replace p4 := Lib.hid p4
  by_cases hE2 : E2 = 0
  rotate_left
  · have hne : (E2 != (0 : Int)) = true := by simpa using hE2
    go_wp2_with fail
    refine hC2.mono ?_
    rintro e w5 ⟨rfl, p5⟩
    go_wp2_with fail
    go_ret
    exact ⟨rfl, hend.out _ p5.bel⟩
  subst hE2
  go_wp2_with fail
  refine hC2.mono ?_
  rintro e w5 ⟨rfl, p5⟩
  clear hC2 p4
  obtain ⟨k, rfl, hk3, hK⟩ := hlaw.out (by first | trivial | rfl)
  clear hlaw hk3
  replace hK := Lib.hid hK
  go_wp2_with fail
  go_loopw [17, 18] (fun ti _ wr => ∃ (i : Nat) (mm xx : Wld), i ≤ n2 ∧ ti = .int .i64 i ∧ Both w.heap.size w wr b (j + 1 + 1 + i) c9 mm xx ∧ Hid (KeptW mm k o.1 o.2)) (fun ti _ _ => n2 - (intOf ti).toNat)
  case atStart => exact ⟨0, _, _, Nat.zero_le _, rfl, p5, hK⟩
  clear p5 hK
  obtain ⟨i, mm, xx, hi, rfl, hP, hK⟩ := hrel
  obtain ⟨wp, rfl⟩ : ∃ x : World, x = wr := ⟨_, rfl⟩
  have hqq : q9 < wp.heap.size := by have := hP.bel.size; omega
  have s0 := (hP.bel.cell (p := ⟨q9, 0, none⟩) hz0).trans r0
  have s1 := (hP.bel.cell (p := ⟨q9, 1, none⟩) hz0).trans r1
  rcases Nat.lt_or_ge i n2 with hlt | hge
  case inl =>
    obtain ⟨b0, off, x, rfl, hb0, hx, q0, q1, q2, q3, q4, q5, q6, q7, q8, q9'⟩ := (h2.1.below hP.bel).stp hlt
    have hxs := hsh2.out.2 x (List.mem_of_getElem? hx)
    have hD := Lib.hid fun W (hW : Below wp.heap.size wp W) => (hP.below (Nat.le_refl _) hW).do_ (Nat.le_refl _) ((((h2.2 x (List.mem_of_getElem? hx)).below hP.bel).ok hxs.1 hxs.2.1).below (hW.mono hP.bel.size)) (by omega)
    unfold Stepx.agg at hD
    have hst := Lib.hid fun e7 e0 => hK.out.step (a := x) e7 e0
    have hkd := (h2.2 x (List.mem_of_getElem? hx)).kind
    replace hP := Lib.hid hP
    replace hx := Lib.hid hx
    clear hxs
    generalize mm.step x = m8 at hD hst
    generalize xx.step x = x8 at hD
    by_cases e7 : x.kind = 7
    · rw [e7] at q0
      have k0 : (x.kind == (7 : Int)) = true := by simpa using e7
      by_cases ef : x.f.store = k
      · rw [ef] at q6
        go_wp2_with fail
        go_roundw
        case rel => exact ⟨i + 1, mm, xx, by omega, by go_num, (hP.out.below (Nat.le_refl _) (by repeat (first | exact Below.refl _ _ | assumption | refine Below.drew ?_ | refine below_drewN ?_ _ | refine Below.alloc ?_ (by first | omega | (simp; try omega)) _ | refine Below.setCell ?_ (by first | omega | (simp; try omega)) _ | (refine Below.trans ?_ (Below.mono (by assumption) (by first | omega | (simp; try omega))))))).more (by omega) (by omega), hK⟩
        case measure => simp [intOf]; omega
      · have k1 : (x.f.store == (k : Int)) = false := by simpa using ef
        have hstp := Lib.hid (hst.out (fun e => ef e.2) (fun e => by rcases e.1 with e | e <;> omega))
        rw [e7] at hD
        ((have x9 := fun k => newCell wp #[.int .u8 x.kind, .int .i64 x.i, .string x.name, .string x.data, .slice x.A x.n x.c, .int .u8 x.f.kind, .int .i64 x.f.store, .int .i64 x.f.n, .int .i64 x.f.at_, .int .i64 x.f.c] 41 (0, 0) k
          have n0 := x9 0
          have n1 := x9 1
          have n2' := x9 2
          have n3 := x9 3
          have n4 := x9 4
          have n5 := x9 5
          have n6 := x9 6
          have n7 := x9 7
          have n8 := x9 8
          have n9 := x9 9
          simp at n0 n1 n2' n3 n4 n5 n6 n7 n8 n9
          clear x9)
         clear hst
         go_wp2_with fail
         refine (hD.out _ (by repeat (first | exact Below.refl _ _ | assumption | refine Below.drew ?_ | refine below_drewN ?_ _ | refine Below.alloc ?_ (by first | omega | (simp; try omega)) _ | refine Below.setCell ?_ (by first | omega | (simp; try omega)) _ | (refine Below.trans ?_ (Below.mono (by assumption) (by first | omega | (simp; try omega))))))).mono ?_
         rintro e w8 ⟨R, rfl, _, p8⟩
         replace p8 := Lib.hid p8
         clear hD hP hK
         go_wp2_with fail
         go_roundw
         case rel => exact ⟨i + 1, m8, x8, by omega, by go_num, p8.out, hstp⟩
         case measure => simp [intOf]; omega)
    by_cases e0 : x.kind = 0
    · rw [e0] at q0
      by_cases en : x.name = o.1
      · have k1 := str_eq en
        replace en := Lib.hid en
        replace e7 := Lib.hid e7
        clear hst hD
        go_wp2_with fail
        go_roundw
        case rel => exact ⟨i + 1, mm, xx, by omega, by go_num, (hP.out.below (Nat.le_refl _) (by repeat (first | exact Below.refl _ _ | assumption | refine Below.drew ?_ | refine below_drewN ?_ _ | refine Below.alloc ?_ (by first | omega | (simp; try omega)) _ | refine Below.setCell ?_ (by first | omega | (simp; try omega)) _ | (refine Below.trans ?_ (Below.mono (by assumption) (by first | omega | (simp; try omega))))))).more (by omega) (by omega), hK⟩
        case measure => simp [intOf]; omega
      · have k1 := str_ne en
        have hstp := Lib.hid (hst.out (fun e => e7 e.1) (fun e => en e.2))
        replace en := Lib.hid en
        replace e7 := Lib.hid e7
        rw [e0] at hD
        ((have x9 := fun k => newCell wp #[.int .u8 x.kind, .int .i64 x.i, .string x.name, .string x.data, .slice x.A x.n x.c, .int .u8 x.f.kind, .int .i64 x.f.store, .int .i64 x.f.n, .int .i64 x.f.at_, .int .i64 x.f.c] 41 (0, 0) k
          have n0 := x9 0
          have n1 := x9 1
          have n2' := x9 2
          have n3 := x9 3
          have n4 := x9 4
          have n5 := x9 5
          have n6 := x9 6
          have n7 := x9 7
          have n8 := x9 8
          have n9 := x9 9
          simp at n0 n1 n2' n3 n4 n5 n6 n7 n8 n9
          clear x9)
         clear hst
         go_wp2_with fail
         refine (hD.out _ (by repeat (first | exact Below.refl _ _ | assumption | refine Below.drew ?_ | refine below_drewN ?_ _ | refine Below.alloc ?_ (by first | omega | (simp; try omega)) _ | refine Below.setCell ?_ (by first | omega | (simp; try omega)) _ | (refine Below.trans ?_ (Below.mono (by assumption) (by first | omega | (simp; try omega))))))).mono ?_
         rintro e w8 ⟨R, rfl, _, p8⟩
         replace p8 := Lib.hid p8
         clear hD hP hK
         go_wp2_with fail
         go_roundw
         case rel => exact ⟨i + 1, m8, x8, by omega, by go_num, p8.out, hstp⟩
         case measure => simp [intOf]; omega)
    by_cases e2 : x.kind = 2
    · rw [e2] at q0
      by_cases en : x.name = o.1
      · have k1 := str_eq en
        replace en := Lib.hid en
        replace e7 := Lib.hid e7
        clear hst hD
        go_wp2_with fail
        go_roundw
        case rel => exact ⟨i + 1, mm, xx, by omega, by go_num, (hP.out.below (Nat.le_refl _) (by repeat (first | exact Below.refl _ _ | assumption | refine Below.drew ?_ | refine below_drewN ?_ _ | refine Below.alloc ?_ (by first | omega | (simp; try omega)) _ | refine Below.setCell ?_ (by first | omega | (simp; try omega)) _ | (refine Below.trans ?_ (Below.mono (by assumption) (by first | omega | (simp; try omega))))))).more (by omega) (by omega), hK⟩
        case measure => simp [intOf]; omega
      · have k1 := str_ne en
        have hstp := Lib.hid (hst.out (fun e => e7 e.1) (fun e => en e.2))
        replace en := Lib.hid en
        replace e7 := Lib.hid e7
        rw [e2] at hD
        ((have x9 := fun k => newCell wp #[.int .u8 x.kind, .int .i64 x.i, .string x.name, .string x.data, .slice x.A x.n x.c, .int .u8 x.f.kind, .int .i64 x.f.store, .int .i64 x.f.n, .int .i64 x.f.at_, .int .i64 x.f.c] 41 (0, 0) k
          have n0 := x9 0
          have n1 := x9 1
          have n2' := x9 2
          have n3 := x9 3
          have n4 := x9 4
          have n5 := x9 5
          have n6 := x9 6
          have n7 := x9 7
          have n8 := x9 8
          have n9 := x9 9
          simp at n0 n1 n2' n3 n4 n5 n6 n7 n8 n9
          clear x9)
         clear hst
         go_wp2_with fail
         refine (hD.out _ (by repeat (first | exact Below.refl _ _ | assumption | refine Below.drew ?_ | refine below_drewN ?_ _ | refine Below.alloc ?_ (by first | omega | (simp; try omega)) _ | refine Below.setCell ?_ (by first | omega | (simp; try omega)) _ | (refine Below.trans ?_ (Below.mono (by assumption) (by first | omega | (simp; try omega))))))).mono ?_
         rintro e w8 ⟨R, rfl, _, p8⟩
         replace p8 := Lib.hid p8
         clear hD hP hK
         go_wp2_with fail
         go_roundw
         case rel => exact ⟨i + 1, m8, x8, by omega, by go_num, p8.out, hstp⟩
         case measure => simp [intOf]; omega)
    have k0 : (x.kind == (7 : Int)) = false := by simpa using e7
    have k1 : (x.kind == (0 : Int)) = false := by simpa using e0
    have k2 : (x.kind == (2 : Int)) = false := by simpa using e2
    have hstp := Lib.hid (hst.out (fun e => e7 e.1) (fun e => e.1.elim e0 e2))
    ((have x9 := fun k => newCell wp #[.int .u8 x.kind, .int .i64 x.i, .string x.name, .string x.data, .slice x.A x.n x.c, .int .u8 x.f.kind, .int .i64 x.f.store, .int .i64 x.f.n, .int .i64 x.f.at_, .int .i64 x.f.c] 41 (0, 0) k
      have n0 := x9 0
      have n1 := x9 1
      have n2' := x9 2
      have n3 := x9 3
      have n4 := x9 4
      have n5 := x9 5
      have n6 := x9 6
      have n7 := x9 7
      have n8 := x9 8
      have n9 := x9 9
      simp at n0 n1 n2' n3 n4 n5 n6 n7 n8 n9
      clear x9)
     clear hst
     go_wp2_with fail
     refine (hD.out _ (by repeat (first | exact Below.refl _ _ | assumption | refine Below.drew ?_ | refine below_drewN ?_ _ | refine Below.alloc ?_ (by first | omega | (simp; try omega)) _ | refine Below.setCell ?_ (by first | omega | (simp; try omega)) _ | (refine Below.trans ?_ (Below.mono (by assumption) (by first | omega | (simp; try omega))))))).mono ?_
     rintro e w8 ⟨R, rfl, _, p8⟩
     replace p8 := Lib.hid p8
     clear hD hP hK
     go_wp2_with fail
     go_roundw
     case rel => exact ⟨i + 1, m8, x8, by omega, by go_num, p8.out, hstp⟩
     case measure => simp [intOf]; omega)
  obtain rfl : i = n2 := by omega
  clear hge hi
  have hC := hP.crash (Nat.le_refl _) A5 n5 c5 ks (h5.1.below hP.bel) fun y hy => (h5.2 y hy).below hP.bel
  have hK3 := Lib.hid ((hK.out.crash (ks.map Surv.keep)).tell rfl rfl)
  replace hP := Lib.hid hP
  generalize mm.crash (ks.map Surv.keep) = m9 at hC hK3
  go_wp2_with fail
  refine hC.mono ?_
  rintro e w6 ⟨rfl, p6⟩
  clear hC hP s0 s1
  have s0 := (p6.bel.cell (p := ⟨q9, 0, none⟩) hz0).trans r0
  have s1 := (p6.bel.cell (p := ⟨q9, 1, none⟩) hz0).trans r1
  have hG := p6.get (Nat.le_refl _) (k : Int) o.1 hon (by omega)
  rw [hK3.out] at hG
  dsimp only at hG
  replace p6 := Lib.hid p6
  go_wp2_with fail
  refine hG.mono ?_
  rintro e w7 ⟨rfl, b7⟩
  have t1 := (b7.cell (p := ⟨q9, 1, none⟩) hz0).trans r1
  have k1 := str_eq (show o.2 = o.2 from rfl)
  go_wp2_with fail
  go_ret
  exact ⟨rfl, hend.out _ b7⟩
end Go.Proofs.YtfkonpmnclknaaaGreat
