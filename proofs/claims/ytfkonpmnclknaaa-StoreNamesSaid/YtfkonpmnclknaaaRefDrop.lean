/-
  The reference's drop and put.
-/
import Derived.Test.YtfkonpmnclknaaaButA
import Derived.Test.YtfkonpmnclknaaaHeld
import Derived.Test.YtfkonpmnclknaaaCutRow
import Derived.Test.YtfkonpmnclknaaaKrip
namespace Go.Proofs.Ytfkonpmnclknaaa
open Go.RowKit
attribute [local go_sem ↓] Go.wp_at_zero Go.wp_at_succ

theorem delO_take {l : List Ob} {n : ByteArray} {j : Nat} {p : Ob} (hp : l[j]? = some p) : delO (l.take (j + 1)) n = delO (l.take j) n ++ (if p.1 = n then [] else [p]) := by
  rw [List.take_add_one, hp]
  unfold delO
  rw [List.filter_append]
  by_cases e : p.1 = n <;> simp [e]

set_option maxHeartbeats 4000000 in
theorem ref07_drop (A : Option Addr) (n c : Nat) (l : List Ob) (x : ByteArray) (w : World) (h : ObsAt w w.heap.size A n l) (hn : n ≤ 1000000) :
    Calls Try.prog 83 #[.slice A n c, .string x] w fun e w' => ∃ v, e = .returned v ∧ objE.Own w' w.heap.size v (delO l x) ∧ Below w.heap.size w w' := by
  have hl := Lib.hid h.1
  go_enter Try.func83, Try.ntmps83
  go_wp2_with fail
  go_loopw [5, 6] (fun v ti wr => ∃ j : Nat, j ≤ n ∧ ti = .int .i64 j ∧ objE.Own wr w.heap.size v (delO (l.take j) x) ∧ Below w.heap.size w wr) (fun _ ti _ => n - (intOf ti).toNat)
  case atStart => exact ⟨0, Nat.zero_le _, rfl, Owns.nil_, Below.refl _ _⟩
  case round =>
    obtain ⟨j, hj, rfl, hown, hbr⟩ := hrel
    obtain ⟨wp, rfl⟩ : ∃ x : World, x = wr := ⟨_, rfl⟩
    have hzr := hbr.size
    by_cases hlt : j < n
    · obtain ⟨b0, off, p, rfl, hb0, hp, q0, q1⟩ := (h.to hbr).ob hlt
      have ht := delO_take (n := x) hp
      have hle : (delO (l.take j) x).length ≤ 1000000000 := Nat.le_trans (delO_len _ _) (by simp; omega)
      replace hp := Lib.hid hp
      by_cases e1 : p.1 = x
      · have i1 := str_eq e1
        rw [if_pos e1, List.append_nil] at ht
        replace ht := Lib.hid ht
        replace e1 := Lib.hid e1
        go_wp2_with fail
        go_roundw
        case rel => exact ⟨j + 1, by omega, by go_num, by rw [ht.out]; exact hown, hbr⟩
        case measure => simp [intOf]; omega
      · have i1 := str_ne e1
        rw [if_neg e1] at ht
        replace ht := Lib.hid ht
        replace e1 := Lib.hid e1
        go_wp2_with (at_builtin; go_must (refine Elem.wpList_one objE rfl (.tmp 20) (.tmp 25) rfl (w.heap.size) _ (delO (l.take j) x) rfl _ _ p rfl (hown.alloc _) (fun j u hu => by rcases j with _ | _ | _ | j <;> simp [objE, obCells] at hu <;> subst hu <;> go_simp) (by first | omega | (simp; omega)) (by first | omega | (simp; try omega)) ?_); intro v4 w4 hown4 hg4 hat4)
        go_roundw
        case rel => exact ⟨j + 1, by omega, by go_num, by rw [ht.out]; exact hown4, Below.grownOwn (hbr.alloc hzr _) (hown.alloc _) (Nat.le_refl _) (by simp; omega) hg4⟩
        case measure => simp [intOf]; omega
    · obtain rfl : j = n := by omega
      have ht : l.take j = l := List.take_of_length_le (by have := hl.out; omega)
      rw [ht] at hown
      replace ht := Lib.hid ht
      obtain ⟨A9, m9, c9, rfl⟩ : ∃ A m c, u5 = .slice A m c := by obtain ⟨A, c, e⟩ := Owns.form hown; exact ⟨A, _, c, e⟩
      go_wp2_with fail
      go_ret
      exact ⟨_, rfl, hown, hbr⟩

/-- How many are ahead of it. -/
def atO : List Ob → ByteArray → Nat
  | [], _ => 0
  | p :: l, x => if sLt p.1 x = true then atO l x + 1 else 0
theorem atO_le : ∀ (l : List Ob) (x : ByteArray), atO l x ≤ l.length
  | [], _ => Nat.le_refl _
  | p :: l, x => by
    have := atO_le l x
    unfold atO
    split
    · simp; omega
    · omega
theorem insO_at (o : Ob) : ∀ l : List Ob, insO l o = l.take (atO l o.1) ++ [o] ++ l.drop (atO l o.1)
  | [] => rfl
  | p :: l => by
    unfold insO atO
    split
    · rw [insO_at o l]; simp
    · rfl
theorem atO_step : ∀ {l : List Ob} {x : ByteArray} {j : Nat} {p : Ob}, (∀ q ∈ l.take j, sLt q.1 x = true) → l[j]? = some p → sLt p.1 x = false → atO l x = j
  | q :: l, x, 0, p, _, h, hs => by
    simp at h
    subst h
    unfold atO
    rw [hs]
    rfl
  | q :: l, x, j + 1, p, hq, h, hs => by
    unfold atO
    rw [if_pos (hq q (by simp))]
    have := atO_step (l := l) (j := j) (fun y hy => hq y (by simp [hy])) (by simpa using h) hs
    omega
theorem atO_all : ∀ {l : List Ob} {x : ByteArray}, (∀ q ∈ l, sLt q.1 x = true) → atO l x = l.length
  | [], _, _ => rfl
  | q :: l, x, h => by
    unfold atO
    rw [if_pos (h q (by simp)), atO_all fun y hy => h y (by simp [hy])]
    rfl
end Go.Proofs.Ytfkonpmnclknaaa
/-
  The reference's put.
-/
namespace Go.Proofs.Ytfkonpmnclknaaa
open Go.RowKit
attribute [local go_sem ↓] Go.wp_at_zero Go.wp_at_succ

theorem newV.grownEmpty {val : Nat → Value} {cs : Array Value} {T T' : TypeId} {B b : Nat} {v : Value} {w w' : World} (h : newV val (.cells cs T) B v w) (hx : w.heap[b]? = some (.cells #[] T')) (hc : cs ≠ #[]) (hg : w.grownBy w' (some b)) : newV val (.cells cs T) B v w' := by
  obtain ⟨c, h1, h2, h3⟩ := h
  refine ⟨c, h1, h2, (hg.block c (Array.getElem?_eq_some_iff.1 h3).1 (fun e => ?_)).trans h3⟩
  injection e with e
  rw [e, hx] at h3
  simp at h3
  exact hc h3.1

theorem blkP {w w' : World} {b : Nat} {o : Obj} (h : w.heap[b]? = some o) (hb : Below w.heap.size w w') : w'.heap[b]? = some o := (hb.block b (Array.getElem?_eq_some_iff.1 h).1).trans h
theorem putO_at (l : List Ob) (o : Ob) {j : Nat} (h : atO (delO l o.1) o.1 = j) : putO l o = ([] ++ (delO l o.1).take j) ++ [o] ++ (delO l o.1).drop j := by
  unfold putO
  rw [insO_at, h, List.nil_append]

set_option maxHeartbeats 4000000 in
set_option maxRecDepth 100000 in
theorem ref07_put (A : Option Addr) (n c : Nat) (l : List Ob) (o : Ob) (w : World) (h : ObsAt w w.heap.size A n l) (hn : n ≤ 1000000) :
    Calls Try.prog 80 #[.slice A n c, .agg #[.string o.1, .string o.2]] w fun e w' => ∃ v, e = .returned v ∧ objE.Own w' w.heap.size v (putO l o) ∧ Below w.heap.size w w' := by
  have hl := Lib.hid h.1
  have hb0 : Below w.heap.size w (w.alloc (.cells #[.string o.1, .string o.2] 30)) := (Below.refl _ w).alloc (Nat.le_refl _) _
  have hz0 : (w.alloc (.cells #[.string o.1, .string o.2] 30)).heap.size = w.heap.size + 1 := by simp
  have q0 := newCell w #[.string o.1, .string o.2] 30 (0, 0) 0
  have q1 := newCell w #[.string o.1, .string o.2] 30 (0, 0) 1
  have hD := ref07_drop A n c l o.1 _ (h.to hb0) hn
  go_enter Try.func80, Try.ntmps80
  go_upto_region 1 with fail
  generalize (w.alloc (.cells #[.string o.1, .string o.2] 30)) = w0 at hb0 hz0 q0 q1 hD ⊢
  replace hD := Lib.hid hD
  go_wp2_with fail
  refine hD.out.mono ?_
  rintro e w1 ⟨v1, rfl, o1, b1⟩
  obtain ⟨A1, m1, c1, rfl⟩ : ∃ A m c, v1 = .slice A m c := by obtain ⟨A, c, e⟩ := Owns.form o1; exact ⟨A, _, c, e⟩
  have hz1 := b1.size
  have hmc : m1 ≤ c1 ∧ (A1 = none → c1 = 0) ∧ (∀ a, A1 = some a → ∃ g, a = ⟨g, 0, none⟩) := by
    rcases o1.2 with ⟨e, _⟩ | ⟨g, cap, cur, e, _, _, hc, _⟩
    · cases e
      exact ⟨by have := o1.1; simp at *, fun _ => rfl, fun a e => by cases e⟩
    · cases e
      exact ⟨by simpa using hc, ⟨fun e => (nomatch e), fun a e => ⟨g, (Option.some.inj e).symm⟩⟩⟩
  have r1 := Owns.row (k := 2) (fun x => objE.len x) o1
  have d0 := (b1.cell (p := ⟨w.heap.size, 0, none⟩) (by simp; omega)).trans q0
  have d1 := (b1.cell (p := ⟨w.heap.size, 1, none⟩) (by simp; omega)).trans q1
  have hm : m1 ≤ 1000000 := by have := r1.1; have := delO_len l o.1; have := hl.out; omega
  clear hD o1
  go_wp2_with fail
  go_loopw [6] (fun ti wr => ∃ j : Nat, j ≤ m1 ∧ ti = .int .i64 j ∧ Hid (∀ q ∈ (delO l o.1).take j, sLt q.1 o.1 = true) ∧ Below w1.heap.size w1 wr) (fun ti _ => m1 - (intOf ti).toNat)
  case atStart => exact ⟨0, Nat.zero_le _, rfl, by unfold Hid; simp, Below.refl _ _⟩
  case round =>
    obtain ⟨j, hj, rfl, hall, hbr⟩ := hrel
    obtain ⟨wp, rfl⟩ : ∃ x : World, x = wr := ⟨_, rfl⟩
    have e0 := (hbr.cell (p := ⟨w.heap.size, 0, none⟩) (by simp; omega)).trans d0
    have e1 := (hbr.cell (p := ⟨w.heap.size, 1, none⟩) (by simp; omega)).trans d1
    have rp := r1.to hbr
    by_cases hlt : j < m1
    · obtain ⟨b0, off, p, rfl, hb9, hp, p0, p1⟩ := (r1.to hbr).ob hlt
      cases hs : sLt p.1 o.1
      · have hcmp : Op.bytesLess p.1.toList o.1.toList = false := hs
        have hat := Lib.hid (atO_step hall.out hp hs)
        replace hp := Lib.hid hp
        replace hs := Lib.hid hs
        go_wp2_with fail
        go_quiet (fail)
        go_wp2_with fail
        have hbq : Below w1.heap.size w1 (wp.drewN nq) := (by repeat (first | exact Below.refl _ _ | assumption | refine Below.drew ?_ | refine below_drewN ?_ _ | refine Below.alloc ?_ (by first | omega | (simp; try omega)) _ | refine Below.setCell ?_ (by first | omega | (simp; try omega)) _ | (refine Below.trans ?_ (Below.mono (by assumption) (by first | omega | (simp; try omega))))))
        have f0 := (hbq.cell (p := ⟨w.heap.size, 0, none⟩) (by simp; omega)).trans d0
        have f1 := (hbq.cell (p := ⟨w.heap.size, 1, none⟩) (by simp; omega)).trans d1
        have rq := r1.to hbq
        have hzq : w.heap.size < (wp.drewN nq).heap.size := by have := hbq.size; omega
        have hjc : j ≤ c1 := by omega
        generalize wp.drewN nq = wq at hbq f0 f1 rq hzq ⊢
        clear e0 e1 rp p0 p1 hb9
        have rt := rq.tailIf (n := j) (c := c1) hj hmc.1
        have hdl : (delO l o.1).length = m1 := rq.1
        refine region_krip (fun W : World => Below wq.heap.size wq W) (by kernel_rfl) ((Below.refl _ _).drew) ?_
        (refine kF.takeL (i := 1) (v := ?_) rfl (by kernel_rfl) (fun _ _ _ h => h) (Or.inl ⟨by rfl, ?_⟩) ?_
         rotate_left
         · (intro wS hSw; (try dsimp only at hSw); have hcS := fun b o (h : b < wq.heap.size) => hSw.cell (p := ⟨b, o, none⟩) h; go_simp; (try with_reducible rfl))
         try simp only [Act.put, List.setIfInBounds_toArray, List.set_cons_zero, List.set_cons_succ])
        (refine kF.takeL (i := 2) (v := ?_) rfl (by kernel_rfl) (fun _ _ _ h => h) (Or.inl ⟨by rfl, ?_⟩) ?_
         rotate_left
         · (intro wS hSw; (try dsimp only at hSw); have hcS := fun b o (h : b < wq.heap.size) => hSw.cell (p := ⟨b, o, none⟩) h; go_simp; (try with_reducible rfl))
         try simp only [Act.put, List.setIfInBounds_toArray, List.set_cons_zero, List.set_cons_succ])
        (refine kF.takeL (i := 3) (v := ?_) rfl (by kernel_rfl) (fun _ _ _ h => h) (Or.inl ⟨by rfl, ?_⟩) ?_
         rotate_left
         · (intro wS hSw; (try dsimp only at hSw); have hcS := fun b o (h : b < wq.heap.size) => hSw.cell (p := ⟨b, o, none⟩) h; go_simp; (try with_reducible rfl))
         try simp only [Act.put, List.setIfInBounds_toArray, List.set_cons_zero, List.set_cons_succ])
        (refine kF.takeL (i := 5) (v := ?_) rfl (by kernel_rfl) (fun _ _ _ h => h) (Or.inl ⟨by rfl, ?_⟩) ?_
         rotate_left
         · (intro wS hSw; (try dsimp only at hSw); have hcS := fun b o (h : b < wq.heap.size) => hSw.cell (p := ⟨b, o, none⟩) h; go_simp; (try with_reducible rfl))
         try simp only [Act.put, List.setIfInBounds_toArray, List.set_cons_zero, List.set_cons_succ])
        (refine kF.takeL (i := 8) (v := ?_) rfl (by kernel_rfl) (fun _ _ _ h => h) (Or.inl ⟨by rfl, ?_⟩) ?_
         rotate_left
         · (intro wS hSw; (try dsimp only at hSw); have hcS := fun b o (h : b < wq.heap.size) => hSw.cell (p := ⟨b, o, none⟩) h; go_simp; (try with_reducible rfl))
         try simp only [Act.put, List.setIfInBounds_toArray, List.set_cons_zero, List.set_cons_succ])
        (refine kF.takeL (i := 9) (v := ?_) rfl (by kernel_rfl) (fun _ _ _ h => h) (Or.inl ⟨by rfl, ?_⟩) ?_
         rotate_left
         · (intro wS hSw; (try dsimp only at hSw); have hcS := fun b o (h : b < wq.heap.size) => hSw.cell (p := ⟨b, o, none⟩) h; go_simp; (try with_reducible rfl))
         try simp only [Act.put, List.setIfInBounds_toArray, List.set_cons_zero, List.set_cons_succ])
        (refine kF.takeL (i := 10) (v := ?_) rfl (by kernel_rfl) (fun _ _ _ h => h) (Or.inl ⟨by rfl, ?_⟩) ?_
         rotate_left
         · (intro wS hSw; (try dsimp only at hSw); have hcS := fun b o (h : b < wq.heap.size) => hSw.cell (p := ⟨b, o, none⟩) h; go_simp; (try with_reducible rfl))
         try simp only [Act.put, List.setIfInBounds_toArray, List.set_cons_zero, List.set_cons_succ])
        (refine kF.newL (i := 6) (fun b => .slice (some ⟨b, 0, none⟩) 1 1) (.cells #[.string o.1, .string o.2] 30) rfl (by kernel_rfl) (by rfl) ?_ ?_
         · (intro wS; go_simp; (try with_reducible rfl)))
        (refine kF.newL (i := 0) (fun b => .slice (some ⟨b, 0, none⟩) 0 0) (.cells #[] 30) rfl (by kernel_rfl) (by rfl) ?_ ?_
         · (intro wS; go_simp; (try with_reducible rfl)))
        (refine kF.settleL (by kernel_rfl) (fun _ _ h1 h2 => below_S (Nat.le_refl _) h1 h2) (fun u0 hbu0 hSu0 v hv => ?_)
         obtain ⟨bu0, hBu0, rfl, hxu0⟩ := hv
         try simp only [Act.put, List.setIfInBounds_toArray, List.set_cons_zero, List.set_cons_succ])
        (refine kF.onlyL (j := 4) rfl (by kernel_rfl) (fun _ _ _ _ _ h => h) (fun _ _ h1 h2 => below_S (Nat.le_refl _) h1 h2) (fun k4 hbk4 hek4 hSk4 K hK => ?_)
         ((apply Elem.step_row objE (s := .tmp 27) (x := .tmp 30) (base := wq.heap.size) (l := []) (l' := (delO l o.1).take j); (case' hgd => rfl); (case' ho => rfl); (case' hs => rfl); (case' hx => rfl); (case' hown => exact (own_empty (k := objE.k) (enc := objE.enc) (T := objE.T) (blkP hxu0 hbk4) hBu0)); (case' hr => exact (((rq.headRow hj).to hSk4))); (case' hl => exact (by simp; omega)); (case' hbase => exact Below.size (by assumption))); intro va ma oa ga _)
         refine hK.out _ _ (Below.grownOwn hSk4 (own_empty (k := objE.k) (enc := objE.enc) (T := objE.T) (blkP hxu0 hbk4) hBu0) (Nat.le_refl _) (hSk4.size) ga) (.inr (.inr ⟨ga.size, (by intro x hx v hv; simp only [List.mem_singleton] at hx; subst hx; exact newV.grownEmpty hv (blkP hxu0 hbk4) (by simp) ga)⟩)) ?_
         clear hK K hek4
         try simp only [Act.put, List.setIfInBounds_toArray, List.set_cons_zero, List.set_cons_succ])
        (refine kF.settleL (by kernel_rfl) (fun _ _ h1 h2 => below_S (Nat.le_refl _) h1 h2) (fun u6 hbu6 hSu6 v hv => ?_)
         obtain ⟨bu6, hBu6, rfl, hxu6⟩ := hv
         try simp only [Act.put, List.setIfInBounds_toArray, List.set_cons_zero, List.set_cons_succ])
        (refine kF.lastL (j := 7) rfl (by kernel_rfl) (fun _ _ _ _ _ h => h) (fun _ _ h1 h2 => below_S (Nat.le_refl _) h1 h2) (fun hSk K hK => ?_)
         ((apply Elem.step_one objE (s := .tmp 31) (x := .tmp 33) (base := wq.heap.size) (g := bu6) (c := 1) (y := o); (case' hgd => rfl); (case' ho => rfl); (case' hs => rfl); (case' hx => rfl); (case' hown => exact (oa.below hbu6)); (case' hy => exact (fun j u hu => by rcases j with _ | _ | _ | j <;> simp [objE, obCells] at hu <;> subst hu <;> exact cell_of_row _ _ _ _ _ _ hxu6)); (case' hl => (simp; omega)); (case' hbase => exact Below.size (by assumption))); intro vb mb ob gb _)
         refine hK.out _ _ ((Below.grownOwn hSk (oa.below hbu6) (Nat.le_refl _) hSk.size gb)) ?_
         clear hK K
         try simp only [Act.put, List.setIfInBounds_toArray, List.set_cons_zero, List.set_cons_succ])
        (refine kF.lastL (j := 11) rfl (by kernel_rfl) (fun _ _ _ _ _ h => h) (fun _ _ h1 h2 => below_S (Nat.le_refl _) h1 h2) (fun hSk K hK => ?_)
         ((apply Elem.step_row objE (s := .tmp 34) (x := .tmp 37) (base := wq.heap.size) (l := ([] ++ (delO l o.1).take j ++ [o])) (l' := (delO l o.1).drop j); (case' hgd => rfl); (case' ho => rfl); (case' hs => rfl); (case' hx => rfl); (case' hown => exact (ob)); (case' hr => exact ((rt.to hSk))); (case' hl => exact (by simp; omega)); (case' hbase => exact Below.size (by assumption))); intro vc mc oc gc _)
         refine hK.out _ _ ((Below.grownOwn hSk ob (Nat.le_refl _) hSk.size gc)) ?_
         clear hK K
         try simp only [Act.put, List.setIfInBounds_toArray, List.set_cons_zero, List.set_cons_succ])
        (refine kF.takeL (i := 12) (v := ?_) rfl (by kernel_rfl) (fun _ _ _ h => h) (Or.inl ⟨by rfl, ?_⟩) ?_
         rotate_left
         · (intro wS hSw; (try dsimp only at hSw); have hcS := fun b o (h : b < wq.heap.size) => hSw.cell (p := ⟨b, o, none⟩) h; go_simp; (try with_reducible rfl))
         try simp only [Act.put, List.setIfInBounds_toArray, List.set_cons_zero, List.set_cons_succ])
        refine kF.done (by kernel_rfl) ?_
        go_wp2_with fail
        go_ret
        have hzz := hbq.size
        have hfin : Below wq.heap.size wq mc := Below.grownOwn hSk ob (Nat.le_refl _) hSk.size gc
        exact ⟨_, rfl, by rw [putO_at l o hat.out]; exact Owns.from oc (by omega), (hb0.trans (b1.mono (by omega))).trans ((hbq.mono (by omega)).trans (hfin.mono (by omega)))⟩
      · have hcmp : Op.bytesLess p.1.toList o.1.toList = true := hs
        have hall2 : Hid (∀ q ∈ (delO l o.1).take (j + 1), sLt q.1 o.1 = true) := by
          unfold Hid
          intro q hq
          rw [List.take_add_one, hp] at hq
          rcases List.mem_append.1 hq with hq | hq
          · exact hall.out q hq
          · simp at hq
            rw [hq]
            exact hs
        replace hp := Lib.hid hp
        replace hs := Lib.hid hs
        clear hall
        go_wp2_with fail
        go_quiet (fail)
        go_wp2_with fail
        go_roundw
        case rel => exact ⟨j + 1, by omega, by go_num, hall2, (by repeat (first | exact Below.refl _ _ | assumption | refine Below.drew ?_ | refine below_drewN ?_ _ | refine Below.alloc ?_ (by first | omega | (simp; try omega)) _ | refine Below.setCell ?_ (by first | omega | (simp; try omega)) _ | (refine Below.trans ?_ (Below.mono (by assumption) (by first | omega | (simp; try omega))))))⟩
        case measure => simp [intOf]; omega
    · obtain rfl : j = m1 := by omega
      have hat := Lib.hid (atO_all (l := delO l o.1) (x := o.1) fun q hq => hall.out q (by rw [List.take_of_length_le (by have := r1.1; omega)]; exact hq))
      go_wp2_with fail
      go_quiet (fail)
      go_wp2_with fail
      have hbq : Below w1.heap.size w1 (wp.drewN nq) := (by repeat (first | exact Below.refl _ _ | assumption | refine Below.drew ?_ | refine below_drewN ?_ _ | refine Below.alloc ?_ (by first | omega | (simp; try omega)) _ | refine Below.setCell ?_ (by first | omega | (simp; try omega)) _ | (refine Below.trans ?_ (Below.mono (by assumption) (by first | omega | (simp; try omega))))))
      have f0 := (hbq.cell (p := ⟨w.heap.size, 0, none⟩) (by simp; omega)).trans d0
      have f1 := (hbq.cell (p := ⟨w.heap.size, 1, none⟩) (by simp; omega)).trans d1
      have rq := r1.to hbq
      have hzq : w.heap.size < (wp.drewN nq).heap.size := by have := hbq.size; omega
      have hjc : j ≤ c1 := by omega
      generalize wp.drewN nq = wq at hbq f0 f1 rq hzq ⊢
      clear e0 e1 rp
      obtain ⟨AA, hAA, rt⟩ : ∃ AA, (∀ W : World, (Instr.slice 47 (.slice A1 j c1) (some (.int .i64 j)) none none).run Try.prog W = .ok (.slice AA (j - j) (c1 - j)) W) ∧ ObsAt wq wq.heap.size AA (j - j) ((delO l o.1).drop j) := by
        cases A1 with
        | none =>
          obtain rfl : c1 = 0 := hmc.2.1 rfl
          obtain rfl : j = 0 := by omega
          exact ⟨none, fun W => by go_simp, by rw [List.drop_eq_nil_of_le (by have := rq.1; omega)]; exact RowAt.none_⟩
        | some a =>
          obtain ⟨g, rfl⟩ := hmc.2.2 a rfl
          exact ⟨_, fun W => by go_simp, rq.tailIf (n := j) (c := c1) (Nat.le_refl _) hmc.1⟩
      have hdl : (delO l o.1).length = j := rq.1
      refine region_krip (fun W : World => Below wq.heap.size wq W) (by kernel_rfl) ((Below.refl _ _).drew) ?_
      (refine kF.takeL (i := 1) (v := ?_) rfl (by kernel_rfl) (fun _ _ _ h => h) (Or.inl ⟨by rfl, ?_⟩) ?_
       rotate_left
       · (intro wS hSw; (try dsimp only at hSw); have hcS := fun b o (h : b < wq.heap.size) => hSw.cell (p := ⟨b, o, none⟩) h; go_simp; (try with_reducible rfl))
       try simp only [Act.put, List.setIfInBounds_toArray, List.set_cons_zero, List.set_cons_succ])
      (refine kF.takeL (i := 2) (v := ?_) rfl (by kernel_rfl) (fun _ _ _ h => h) (Or.inl ⟨by rfl, ?_⟩) ?_
       rotate_left
       · (intro wS hSw; (try dsimp only at hSw); have hcS := fun b o (h : b < wq.heap.size) => hSw.cell (p := ⟨b, o, none⟩) h; go_simp; (try with_reducible rfl))
       try simp only [Act.put, List.setIfInBounds_toArray, List.set_cons_zero, List.set_cons_succ])
      (refine kF.takeL (i := 3) (v := ?_) rfl (by kernel_rfl) (fun _ _ _ h => h) (Or.inl ⟨by rfl, ?_⟩) ?_
       rotate_left
       · (intro wS hSw; (try dsimp only at hSw); have hcS := fun b o (h : b < wq.heap.size) => hSw.cell (p := ⟨b, o, none⟩) h; go_simp; (try with_reducible rfl))
       try simp only [Act.put, List.setIfInBounds_toArray, List.set_cons_zero, List.set_cons_succ])
      (refine kF.takeL (i := 5) (v := ?_) rfl (by kernel_rfl) (fun _ _ _ h => h) (Or.inl ⟨by rfl, ?_⟩) ?_
       rotate_left
       · (intro wS hSw; (try dsimp only at hSw); have hcS := fun b o (h : b < wq.heap.size) => hSw.cell (p := ⟨b, o, none⟩) h; go_simp; (try with_reducible rfl))
       try simp only [Act.put, List.setIfInBounds_toArray, List.set_cons_zero, List.set_cons_succ])
      (refine kF.takeL (i := 8) (v := ?_) rfl (by kernel_rfl) (fun _ _ _ h => h) (Or.inl ⟨by rfl, ?_⟩) ?_
       rotate_left
       · (intro wS hSw; (try dsimp only at hSw); have hcS := fun b o (h : b < wq.heap.size) => hSw.cell (p := ⟨b, o, none⟩) h; go_simp; (try with_reducible rfl))
       try simp only [Act.put, List.setIfInBounds_toArray, List.set_cons_zero, List.set_cons_succ])
      (refine kF.takeL (i := 9) (v := ?_) rfl (by kernel_rfl) (fun _ _ _ h => h) (Or.inl ⟨by rfl, ?_⟩) ?_
       rotate_left
       · (intro wS hSw; (try dsimp only at hSw); have hcS := fun b o (h : b < wq.heap.size) => hSw.cell (p := ⟨b, o, none⟩) h; go_simp; (try with_reducible rfl))
       try simp only [Act.put, List.setIfInBounds_toArray, List.set_cons_zero, List.set_cons_succ])
      (refine kF.takeL (i := 10) (v := .slice AA (j - j) (c1 - j)) rfl (by kernel_rfl) (fun _ _ _ h => h) (Or.inl ⟨by rfl, ?_⟩) ?_
       · (intro wS hSw; (try dsimp only at hSw); have hcS := fun b o (h : b < wq.heap.size) => hSw.cell (p := ⟨b, o, none⟩) h; go_simp; (try exact hAA _))
       try simp only [Act.put, List.setIfInBounds_toArray, List.set_cons_zero, List.set_cons_succ])
      (refine kF.newL (i := 6) (fun b => .slice (some ⟨b, 0, none⟩) 1 1) (.cells #[.string o.1, .string o.2] 30) rfl (by kernel_rfl) (by rfl) ?_ ?_
       · (intro wS; go_simp; (try with_reducible rfl)))
      (refine kF.newL (i := 0) (fun b => .slice (some ⟨b, 0, none⟩) 0 0) (.cells #[] 30) rfl (by kernel_rfl) (by rfl) ?_ ?_
       · (intro wS; go_simp; (try with_reducible rfl)))
      (refine kF.settleL (by kernel_rfl) (fun _ _ h1 h2 => below_S (Nat.le_refl _) h1 h2) (fun u0 hbu0 hSu0 v hv => ?_)
       obtain ⟨bu0, hBu0, rfl, hxu0⟩ := hv
       try simp only [Act.put, List.setIfInBounds_toArray, List.set_cons_zero, List.set_cons_succ])
      (refine kF.onlyL (j := 4) rfl (by kernel_rfl) (fun _ _ _ _ _ h => h) (fun _ _ h1 h2 => below_S (Nat.le_refl _) h1 h2) (fun k4 hbk4 hek4 hSk4 K hK => ?_)
       ((apply Elem.step_row objE (s := .tmp 27) (x := .tmp 30) (base := wq.heap.size) (l := []) (l' := (delO l o.1).take j); (case' hgd => rfl); (case' ho => rfl); (case' hs => rfl); (case' hx => rfl); (case' hown => exact (own_empty (k := objE.k) (enc := objE.enc) (T := objE.T) (blkP hxu0 hbk4) hBu0)); (case' hr => exact (((rq.headRow (Nat.le_refl _)).to hSk4))); (case' hl => exact (by simp; omega)); (case' hbase => exact Below.size (by assumption))); intro va ma oa ga _)
       refine hK.out _ _ (Below.grownOwn hSk4 (own_empty (k := objE.k) (enc := objE.enc) (T := objE.T) (blkP hxu0 hbk4) hBu0) (Nat.le_refl _) (hSk4.size) ga) (.inr (.inr ⟨ga.size, (by intro x hx v hv; simp only [List.mem_singleton] at hx; subst hx; exact newV.grownEmpty hv (blkP hxu0 hbk4) (by simp) ga)⟩)) ?_
       clear hK K hek4
       try simp only [Act.put, List.setIfInBounds_toArray, List.set_cons_zero, List.set_cons_succ])
      (refine kF.settleL (by kernel_rfl) (fun _ _ h1 h2 => below_S (Nat.le_refl _) h1 h2) (fun u6 hbu6 hSu6 v hv => ?_)
       obtain ⟨bu6, hBu6, rfl, hxu6⟩ := hv
       try simp only [Act.put, List.setIfInBounds_toArray, List.set_cons_zero, List.set_cons_succ])
      (refine kF.lastL (j := 7) rfl (by kernel_rfl) (fun _ _ _ _ _ h => h) (fun _ _ h1 h2 => below_S (Nat.le_refl _) h1 h2) (fun hSk K hK => ?_)
       ((apply Elem.step_one objE (s := .tmp 31) (x := .tmp 33) (base := wq.heap.size) (g := bu6) (c := 1) (y := o); (case' hgd => rfl); (case' ho => rfl); (case' hs => rfl); (case' hx => rfl); (case' hown => exact (oa.below hbu6)); (case' hy => exact (fun j u hu => by rcases j with _ | _ | _ | j <;> simp [objE, obCells] at hu <;> subst hu <;> exact cell_of_row _ _ _ _ _ _ hxu6)); (case' hl => (simp; omega)); (case' hbase => exact Below.size (by assumption))); intro vb mb ob gb _)
       refine hK.out _ _ ((Below.grownOwn hSk (oa.below hbu6) (Nat.le_refl _) hSk.size gb)) ?_
       clear hK K
       try simp only [Act.put, List.setIfInBounds_toArray, List.set_cons_zero, List.set_cons_succ])
      (refine kF.lastL (j := 11) rfl (by kernel_rfl) (fun _ _ _ _ _ h => h) (fun _ _ h1 h2 => below_S (Nat.le_refl _) h1 h2) (fun hSk K hK => ?_)
       ((apply Elem.step_row objE (s := .tmp 34) (x := .tmp 37) (base := wq.heap.size) (l := ([] ++ (delO l o.1).take j ++ [o])) (l' := (delO l o.1).drop j); (case' hgd => rfl); (case' ho => rfl); (case' hs => rfl); (case' hx => rfl); (case' hown => exact (ob)); (case' hr => exact ((rt.to hSk))); (case' hl => exact (by simp; omega)); (case' hbase => exact Below.size (by assumption))); intro vc mc oc gc _)
       refine hK.out _ _ ((Below.grownOwn hSk ob (Nat.le_refl _) hSk.size gc)) ?_
       clear hK K
       try simp only [Act.put, List.setIfInBounds_toArray, List.set_cons_zero, List.set_cons_succ])
      (refine kF.takeL (i := 12) (v := ?_) rfl (by kernel_rfl) (fun _ _ _ h => h) (Or.inl ⟨by rfl, ?_⟩) ?_
       rotate_left
       · (intro wS hSw; (try dsimp only at hSw); have hcS := fun b o (h : b < wq.heap.size) => hSw.cell (p := ⟨b, o, none⟩) h; go_simp; (try with_reducible rfl))
       try simp only [Act.put, List.setIfInBounds_toArray, List.set_cons_zero, List.set_cons_succ])
      refine kF.done (by kernel_rfl) ?_
      go_wp2_with fail
      go_ret
      have hzz := hbq.size
      have hfin : Below wq.heap.size wq mc := Below.grownOwn hSk ob (Nat.le_refl _) hSk.size gc
      exact ⟨_, rfl, by rw [putO_at l o (hat.out.trans hdl)]; exact Owns.from oc (by omega), (hb0.trans (b1.mono (by omega))).trans ((hbq.mono (by omega)).trans (hfin.mono (by omega)))⟩
end Go.Proofs.Ytfkonpmnclknaaa
