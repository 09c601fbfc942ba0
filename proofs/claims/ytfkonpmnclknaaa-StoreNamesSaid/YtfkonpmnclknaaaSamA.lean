/-
  maps.Equal at objects; slices.Equal at writes; the reference's SameObjects.
-/
import Derived.Test.YtfkonpmnclknaaaActsL
namespace Go.Proofs.Ytfkonpmnclknaaa
open Go.RowKit Go.Maps
attribute [local go_sem ↓] Go.wp_at_zero Go.wp_at_succ

theorem Wr.ext : ∀ {x y : Wr}, x.name = y.name → x.data = y.data → x.del = y.del → x = y
  | ⟨_, _, _⟩, ⟨_, _, _⟩, rfl, rfl, rfl => rfl
instance : DecidableEq Wr := fun x y => if h : x.name = y.name ∧ x.data = y.data ∧ x.del = y.del then .isTrue (Wr.ext h.1 h.2.1 h.2.2) else .isFalse fun e => h (by rw [e]; exact ⟨rfl, rfl, rfl⟩)
theorem obs_sub : ∀ {l2 l1 : List Ob}, RiseO l1 → RiseO l2 → (∀ p ∈ l1, p ∈ l2) → l1.Sublist l2
  | [], [], _, _, _ => .slnil
  | [], p :: l1, _, _, h => absurd (h p List.mem_cons_self) (by simp)
  | q :: l2, [], _, _, _ => List.nil_sublist _
  | q :: l2, p :: l1, h1, h2, h => by
    rw [riseO_cons] at h1 h2
    by_cases e : p = q
    · subst e
      refine .cons_cons _ (obs_sub h1.2 h2.2 fun x hx => ?_)
      rcases List.mem_cons.1 (h x (List.mem_cons_of_mem _ hx)) with rfl | hx2
      · exact absurd rfl (sLt_ne (h1.1 x hx))
      · exact hx2
    · have hp : p ∈ l2 := (List.mem_cons.1 (h p List.mem_cons_self)).resolve_left e
      refine .cons _ (obs_sub (List.pairwise_cons.2 h1) h2.2 fun x hx => ?_)
      rcases List.mem_cons.1 (h x hx) with rfl | hx2
      · rcases List.mem_cons.1 hx with rfl | hx3
        · exact absurd rfl e
        · exact absurd rfl (sLt_ne (sLt_trans (h1.1 x hx3) (h2.1 p hp)))
      · exact hx2
theorem obs_eq {l1 l2 : List Ob} (h1 : RiseO l1) (h2 : RiseO l2) (hl : l1.length = l2.length) (h : ∀ p ∈ l1, lookO l2 p.1 = some p.2) : l1 = l2 :=
  (obs_sub h1 h2 fun p hp => lookO_mem (h p hp)).eq_of_length hl

set_option maxHeartbeats 2000000 in
theorem maps_EqualS (b1 b2 N1 N2 : Nat) (l1 l2 : List Ob) (w : World) (h1 : MapAt w b1 N1 l1) (h2 : MapAt w b2 N2 l2) :
    Calls Try.prog 58 #[.map (some b1), .map (some b2)] w fun e w' => e = .returned (.bool (decide (l1 = l2))) ∧ Below w.heap.size w w' := by
  have hr1 := Lib.hid h1.rise
  have hr2 := Lib.hid h2.rise
  have hn1 := Lib.hid h1.names
  have hm2 := Lib.hid h2
  have hlb2 := h2.lt
  obtain ⟨_, _, hdm, D, hD, hh, ha⟩ := h1
  obtain ⟨_, _, _, D2, hD2, hh2, _⟩ := h2
  have s1 := size_names hr1.out hD hh
  have s2 := size_names hr2.out hD2 hh2
  have e1 := fun ty => hD.len (t := 66) Try.underlying66 ty
  have e2 := fun ty => hD2.len (t := 66) Try.underlying66 ty
  rw [s1] at e1
  rw [s2] at e2
  obtain ⟨n1, hn1'⟩ : ∃ n, n = l1.length := ⟨_, rfl⟩
  obtain ⟨n2, hn2'⟩ : ∃ n, n = l2.length := ⟨_, rfl⟩
  rw [← hn1'] at e1
  rw [← hn2'] at e2
  clear hD2 hh2 s1 s2
  replace hh := Lib.hid hh
  replace ha := Lib.hid ha
  replace hn1' := Lib.hid hn1'
  replace hn2' := Lib.hid hn2'
  replace hdm := Lib.hid hdm
  by_cases hne : n1 = n2
  · subst hne
    go_enter Try.func58, Try.ntmps58
    go_wp2_with (first | (at_range; refine wpList_range_own _ rfl _ 66 rfl 9 9 strKeyed Try.underlying66 (plainElem Try.prog 9) b1 N1 D rfl hD ?_; intro w0 hrg0 hg0 hs0) | fail)
    go_frame
    clear e1 e2
    go_loopw [5, 6, 7, 8] (fun _ _ _ _ wr => ∃ (left : Lit → Bool) (cnt : Nat), wr.ranges Try.prog 9 (plainElem Try.prog 9) b1 w.heap.size N1 D left cnt ∧ Hid (∀ p ∈ l1, left (skey p.1) = false → lookO l2 p.1 = some p.2) ∧ Below w.heap.size w wr) (fun _ _ _ _ wr => wr.rangeLeft b1 w.heap.size)
    case atStart =>
      refine ⟨_, _, hrg0, ?_, Below.of_grown hg0⟩
      intro p hp hf
      rw [hh.out, mem_lookO hr1.out hp] at hf
      cases hf
    case round =>
      obtain ⟨left, cnt, hrg, hall, hbw⟩ := hrel
      go_wp2_with (first
        | (at_next; refine wpList_next_obs _ rfl _ rfl b1 w.heap.size N1 D l1 left cnt ha.out hh.out rfl hrg ?_ ?_)
        | fail)
      · intro hl0
        have he : Hid (decide (l1 = l2) = true) := by
          unfold Hid
          rw [decide_eq_true_eq]
          exact obs_eq hr1.out hr2.out (hn1'.out.symm.trans hn2'.out) fun p hp => hall.out p hp (hl0 _)
        replace hl0 := Lib.hid hl0
        go_wp2_with fail
        go_ret
        exact ⟨by rw [he.out]; rfl, hbw⟩
      · intro x c w1 cnt1 hl hlo hrg1 hlt hg1 hs1 hen
        have hxm := lookO_mem hlo
        have hb1 : Below w.heap.size w w1 := hbw.grown hg1 (by have := hbw.size; omega) (fun j hj => by cases hj; exact Nat.le_refl _)
        have hlk : (Instr.lookup 66 (.map (some b2)) (.string x) true).run Try.prog w1 = .ok (.tuple #[.string ((lookO l2 x).getD ⟨#[]⟩), .bool (lookO l2 x).isSome]) w1 := (hm2.out.below hlb2 hb1).look_ok x (hn1.out _ hxm) 0
        have hbad : lookO l2 x ≠ some c → Hid (decide (l1 = l2) = false) := fun hq => by
          unfold Hid
          rw [decide_eq_false_iff_not]
          intro e
          rw [← e] at hq
          exact hq hlo
        have hnext : lookO l2 x = some c → Hid (∀ p ∈ l1, (left (skey p.1) && !(skey p.1).sameKey (skey x)) = false → lookO l2 p.1 = some p.2) := fun hq p hp hf => by
          by_cases e : p.1 = x
          · have := mem_lookO hr1.out hp
            rw [e, hlo] at this
            rw [e, hq]
            exact this
          · have hsk : (skey p.1).sameKey (skey x) = false := Maps.sameKey_ne (skey_ne e)
            rw [hsk] at hf
            exact hall.out p hp (by simpa using hf)
        clear hall
        replace hlo := Lib.hid hlo
        replace hl := Lib.hid hl
        replace hxm := Lib.hid hxm
        cases hq : lookO l2 x with
        | none =>
          have hb := hbad (by rw [hq]; simp)
          rw [hq] at hlk
          simp only [Option.getD_none, Option.isSome_none] at hlk
          clear hnext hbad
          replace hq := Lib.hid hq
          go_wp2_with fail
          go_ret
          exact ⟨by rw [hb.out]; rfl, hb1⟩
        | some d =>
          rw [hq] at hlk
          simp only [Option.getD_some, Option.isSome_some] at hlk
          by_cases hcd : c = d
          · have i1 := str_eq hcd
            have hn := hnext (by rw [hq, hcd])
            clear hnext hbad
            replace hq := Lib.hid hq
            replace hcd := Lib.hid hcd
            go_wp2_with fail
            go_roundw
            case rel => exact ⟨_, cnt1, hrg1, hn, hb1⟩
            case measure => rw [hrg1.left_eq, hrg.left_eq]; exact hlt
          · have i1 := str_ne hcd
            have hb := hbad (by rw [hq]; intro e; exact hcd (Option.some.inj e).symm)
            clear hnext hbad
            replace hq := Lib.hid hq
            replace hcd := Lib.hid hcd
            go_wp2_with fail
            go_ret
            exact ⟨by rw [hb.out]; rfl, hb1⟩
  · have hb : Hid (decide (l1 = l2) = false) := by
      unfold Hid
      rw [decide_eq_false_iff_not]
      intro e
      exact hne (by rw [hn1'.out, hn2'.out, e])
    have hnb : ((n1 : Int) == (n2 : Int)) = false := by rw [beq_eq_false_iff_ne]; omega
    replace hne := Lib.hid hne
    go_enter Try.func58, Try.ntmps58
    go_wp2_with fail
    go_ret
    exact ⟨by rw [hb.out]; rfl, Below.refl _ _⟩

set_option maxHeartbeats 4000000 in
theorem ref07_SameObjs (A : Option Addr) (n c : Nat) (A' : Option Addr) (n' c' : Nat) (l l' : List Ob) (w : World) (h : ObsAt w w.heap.size A n l) (h' : ObsAt w w.heap.size A' n' l') :
    Calls Try.prog 60 #[.slice A n c, .slice A' n' c'] w fun e w' => e = .returned (.bool (decide (l = l'))) ∧ Below w.heap.size w w' := by
  have hn9 := h.2.1
  have hl := Lib.hid h.1
  have hl' := Lib.hid h'.1
  by_cases hnn : n = n'
  · subst hnn
    go_enter Try.func60, Try.ntmps60
    go_wp2_with fail
    go_loopw [5] (fun i wr => ∃ j : Nat, j ≤ n ∧ i = .int .i64 j ∧ Hid (l.take j = l'.take j) ∧ Below w.heap.size w wr) (fun i _ => n - (intOf i).toNat)
    case atStart => exact ⟨0, Nat.zero_le _, rfl, by unfold Hid; simp, Below.refl _ _⟩
    case round =>
      obtain ⟨j, hj, rfl, heq, hbr⟩ := hrel
      obtain ⟨wp, rfl⟩ : ∃ x : World, x = wr := ⟨_, rfl⟩
      by_cases hlt : j < n
      · obtain ⟨b0, off, p, rfl, hb0, hx, q0, q1⟩ := (h.to hbr).ob hlt
        obtain ⟨b1, off1, p1, rfl, hb1, hx1, r0, r1⟩ := (h'.to hbr).ob hlt
        have hstep : p = p1 → Hid (l.take (j + 1) = l'.take (j + 1)) := fun e => by
          unfold Hid
          rw [List.take_add_one, List.take_add_one, heq.out, hx, hx1, e]
        have hbad : p ≠ p1 → Hid (decide (l = l') = false) := fun e => by
          unfold Hid
          rw [decide_eq_false_iff_not]
          intro e2
          rw [e2, hx1] at hx
          exact e (Option.some.inj hx).symm
        clear heq
        replace hx := Lib.hid hx
        replace hx1 := Lib.hid hx1
        by_cases e0 : p.1 = p1.1
        · have i0 := str_eq e0
          by_cases e1 : p.2 = p1.2
          · have i1 := str_eq e1
            have hs := hstep (Prod.ext e0 e1)
            clear hstep hbad
            replace e0 := Lib.hid e0
            replace e1 := Lib.hid e1
            go_wp2_with fail
            go_quiet (fail)
            go_wp2_with fail
            go_roundw
            case rel => exact ⟨j + 1, by omega, by go_num, hs, (by repeat (first | exact Below.refl _ _ | assumption | refine Below.drew ?_ | refine below_drewN ?_ _ | refine Below.alloc ?_ (by first | omega | (simp; try omega)) _ | refine Below.setCell ?_ (by first | omega | (simp; try omega)) _ | (refine Below.trans ?_ (Below.mono (by assumption) (by first | omega | (simp; try omega))))))⟩
            case measure => simp [intOf]; omega
          · have i1 := str_ne e1
            have hb := hbad (fun e => e1 (by rw [e]))
            clear hstep hbad
            replace e0 := Lib.hid e0
            replace e1 := Lib.hid e1
            go_wp2_with fail
            go_quiet (fail)
            go_wp2_with fail
            go_ret
            exact ⟨by rw [hb.out]; rfl, (by repeat (first | exact Below.refl _ _ | assumption | refine Below.drew ?_ | refine below_drewN ?_ _ | refine Below.alloc ?_ (by first | omega | (simp; try omega)) _ | refine Below.setCell ?_ (by first | omega | (simp; try omega)) _ | (refine Below.trans ?_ (Below.mono (by assumption) (by first | omega | (simp; try omega))))))⟩
        · have i0 := str_ne e0
          have hb := hbad (fun e => e0 (by rw [e]))
          clear hstep hbad
          replace e0 := Lib.hid e0
          go_wp2_with fail
          go_quiet (fail)
          go_wp2_with fail
          go_ret
          exact ⟨by rw [hb.out]; rfl, (by repeat (first | exact Below.refl _ _ | assumption | refine Below.drew ?_ | refine below_drewN ?_ _ | refine Below.alloc ?_ (by first | omega | (simp; try omega)) _ | refine Below.setCell ?_ (by first | omega | (simp; try omega)) _ | (refine Below.trans ?_ (Below.mono (by assumption) (by first | omega | (simp; try omega))))))⟩
      · obtain rfl : j = n := by omega
        have hs : Hid (decide (l = l') = true) := by
          unfold Hid
          rw [decide_eq_true_eq]
          have := heq.out
          rwa [List.take_of_length_le (by have := hl.out; omega), List.take_of_length_le (by have := hl'.out; omega)] at this
        go_wp2_with fail
        go_ret
        exact ⟨by rw [hs.out]; rfl, hbr⟩
  · have hb : Hid (decide (l = l') = false) := by
      unfold Hid
      rw [decide_eq_false_iff_not]
      intro e
      exact hnn (by rw [← hl.out, ← hl'.out, e])
    have hnb : ((n : Int) == (n' : Int)) = false := by rw [beq_eq_false_iff_ne]; omega
    replace hnn := Lib.hid hnn
    go_enter Try.func60, Try.ntmps60
    go_wp2_with fail
    go_ret
    exact ⟨by rw [hb.out]; rfl, Below.refl _ _⟩

set_option maxHeartbeats 4000000 in
theorem slices_EqualW (A : Option Addr) (n c : Nat) (A' : Option Addr) (n' c' : Nat) (l l' : List Wr) (w : World) (h : RowAt 3 Wr.cells w w.heap.size A n l) (h' : RowAt 3 Wr.cells w w.heap.size A' n' l') :
    Calls Try.prog 59 #[.slice A n c, .slice A' n' c'] w fun e w' => e = .returned (.bool (decide (l = l'))) ∧ Below w.heap.size w w' := by
  have hn9 := h.2.1
  have hl := Lib.hid h.1
  have hl' := Lib.hid h'.1
  by_cases hnn : n = n'
  · subst hnn
    go_enter Try.func59, Try.ntmps59
    go_wp2_with fail
    go_loopw [5, 13] (fun _ i wr => ∃ j : Nat, j ≤ n ∧ i = .int .i64 j ∧ Hid (l.take j = l'.take j) ∧ Below w.heap.size w wr) (fun _ i _ => n - (intOf i).toNat)
    case atStart => exact ⟨0, Nat.zero_le _, rfl, by unfold Hid; simp, Below.refl _ _⟩
    case round =>
      obtain ⟨j, hj, rfl, heq, hbr⟩ := hrel
      obtain ⟨wp, rfl⟩ : ∃ x : World, x = wr := ⟨_, rfl⟩
      by_cases hlt : j < n
      · obtain ⟨b0, off, x, rfl, hb0, hx, q0, q1, q2⟩ := (h.to hbr).wr hlt
        obtain ⟨b1, off1, y, rfl, hb1, hx1, r0, r1, r2⟩ := (h'.to hbr).wr hlt
        have hstep : x = y → Hid (l.take (j + 1) = l'.take (j + 1)) := fun e => by
          unfold Hid
          rw [List.take_add_one, List.take_add_one, heq.out, hx, hx1, e]
        have hbad : x ≠ y → Hid (decide (l = l') = false) := fun e => by
          unfold Hid
          rw [decide_eq_false_iff_not]
          intro e2
          rw [e2, hx1] at hx
          exact e (Option.some.inj hx).symm
        clear heq
        replace hx := Lib.hid hx
        replace hx1 := Lib.hid hx1
        by_cases e0 : x.name = y.name
        · have i0 := str_eq e0
          by_cases e1 : x.data = y.data
          · have i1 := str_eq e1
            by_cases e2 : x.del = y.del
            · have i2 : (x.del == y.del) = true := by simpa using e2
              have hs := hstep (Wr.ext e0 e1 e2)
              clear hstep hbad
              replace e0 := Lib.hid e0
              replace e1 := Lib.hid e1
              replace e2 := Lib.hid e2
              go_wp2_with fail
              go_quiet (fail)
              go_wp2_with fail
              go_roundw
              case rel => exact ⟨j + 1, by omega, by go_num, hs, (by repeat (first | exact Below.refl _ _ | assumption | refine Below.drew ?_ | refine below_drewN ?_ _ | refine Below.alloc ?_ (by first | omega | (simp; try omega)) _ | refine Below.setCell ?_ (by first | omega | (simp; try omega)) _ | (refine Below.trans ?_ (Below.mono (by assumption) (by first | omega | (simp; try omega))))))⟩
              case measure => simp [intOf]; omega
            · have i2 : (x.del == y.del) = false := by simpa using e2
              have hb := hbad (fun e => e2 (by rw [e]))
              clear hstep hbad
              replace e0 := Lib.hid e0
              replace e1 := Lib.hid e1
              replace e2 := Lib.hid e2
              go_wp2_with fail
              go_quiet (fail)
              go_wp2_with fail
              go_ret
              exact ⟨by rw [hb.out]; rfl, (by repeat (first | exact Below.refl _ _ | assumption | refine Below.drew ?_ | refine below_drewN ?_ _ | refine Below.alloc ?_ (by first | omega | (simp; try omega)) _ | refine Below.setCell ?_ (by first | omega | (simp; try omega)) _ | (refine Below.trans ?_ (Below.mono (by assumption) (by first | omega | (simp; try omega))))))⟩
          · have i1 := str_ne e1
            have hb := hbad (fun e => e1 (by rw [e]))
            clear hstep hbad
            replace e0 := Lib.hid e0
            replace e1 := Lib.hid e1
            go_wp2_with fail
            go_quiet (fail)
            go_wp2_with fail
            go_ret
            exact ⟨by rw [hb.out]; rfl, (by repeat (first | exact Below.refl _ _ | assumption | refine Below.drew ?_ | refine below_drewN ?_ _ | refine Below.alloc ?_ (by first | omega | (simp; try omega)) _ | refine Below.setCell ?_ (by first | omega | (simp; try omega)) _ | (refine Below.trans ?_ (Below.mono (by assumption) (by first | omega | (simp; try omega))))))⟩
        · have i0 := str_ne e0
          have hb := hbad (fun e => e0 (by rw [e]))
          clear hstep hbad
          replace e0 := Lib.hid e0
          go_wp2_with fail
          go_quiet (fail)
          go_wp2_with fail
          go_ret
          exact ⟨by rw [hb.out]; rfl, (by repeat (first | exact Below.refl _ _ | assumption | refine Below.drew ?_ | refine below_drewN ?_ _ | refine Below.alloc ?_ (by first | omega | (simp; try omega)) _ | refine Below.setCell ?_ (by first | omega | (simp; try omega)) _ | (refine Below.trans ?_ (Below.mono (by assumption) (by first | omega | (simp; try omega))))))⟩
      · obtain rfl : j = n := by omega
        have hs : Hid (decide (l = l') = true) := by
          unfold Hid
          rw [decide_eq_true_eq]
          have := heq.out
          rwa [List.take_of_length_le (by have := hl.out; omega), List.take_of_length_le (by have := hl'.out; omega)] at this
        go_wp2_with fail
        go_ret
        exact ⟨by rw [hs.out]; rfl, hbr⟩
  · have hb : Hid (decide (l = l') = false) := by
      unfold Hid
      rw [decide_eq_false_iff_not]
      intro e
      exact hnn (by rw [← hl.out, ← hl'.out, e])
    have hnb : ((n : Int) == (n' : Int)) = false := by rw [beq_eq_false_iff_ne]; omega
    replace hnn := Lib.hid hnn
    go_enter Try.func59, Try.ntmps59
    go_wp2_with fail
    go_ret
    exact ⟨by rw [hb.out]; rfl, Below.refl _ _⟩
end Go.Proofs.Ytfkonpmnclknaaa
