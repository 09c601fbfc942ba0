/-
  The inner functions of a store: bare, used, refused, settle, names.
-/
import Derived.Test.YtfkonpmnclknaaaStoA
import Derived.Laws.EntriesVeiled
import Derived.Deep.DrawnRows
import Derived.Test.YtfkonpmnclknaaaStrs
namespace Go.Proofs.Ytfkonpmnclknaaa
open Go.RowKit Go.Maps
attribute [local go_sem ↓] Go.wp_at_zero Go.wp_at_succ

theorem Below.of_grown {w w' : World} (h : w.grownBy w' none) : Below w.heap.size w w' := ⟨h.os, h.tape, h.output, h.size, fun i hi => h.block i hi (by simp)⟩
theorem drawn_grown (w : World) (q : Nat) : w.grownBy (w.drewN q) none := ⟨rfl, rfl, rfl, Nat.le_refl _, fun _ _ _ => rfl⟩
theorem store_bare (s : ByteArray) (w : World) : Calls Try.prog 64 #[.string s] w fun e w' => e = .returned (.bool (bareB s)) ∧ w' = w := by
  by_cases h0 : s = ⟨#[109, 48]⟩
  · have e0 : (s.toList == [109, 48]) = true := by simpa using str_eq h0
    have hb : bareB s = true := by simp [bareB, h0]
    replace hb := Lib.hid hb
    replace h0 := Lib.hid h0
    go_enter Try.func64, Try.ntmps64
    go_wp2_with fail
    go_ret
    exact ⟨by rw [hb.out]; rfl, rfl⟩
  · by_cases h1 : s = ⟨#[109, 49]⟩
    · have e0 : (s.toList == [109, 48]) = false := by simpa using str_ne h0
      have e1 : (s.toList == [109, 49]) = true := by simpa using str_eq h1
      have hb : bareB s = true := by simp [bareB, h1]
      replace hb := Lib.hid hb
      replace h0 := Lib.hid h0
      replace h1 := Lib.hid h1
      go_enter Try.func64, Try.ntmps64
      go_wp2_with fail
      go_ret
      exact ⟨by rw [hb.out]; rfl, rfl⟩
    · have e0 : (s.toList == [109, 48]) = false := by simpa using str_ne h0
      have e1 : (s.toList == [109, 49]) = false := by simpa using str_ne h1
      have hb : bareB s = false := by simp [bareB, h0, h1]
      replace hb := Lib.hid hb
      replace h0 := Lib.hid h0
      replace h1 := Lib.hid h1
      go_enter Try.func64, Try.ntmps64
      go_wp2_with fail
      go_ret
      exact ⟨by rw [hb.out]; rfl, rfl⟩

/-- What is used of those objects that are no longer to come. -/
def usedL : List Ob → (Lit → Bool) → Nat
  | [], _ => 0
  | p :: l, left => (if left (skey p.1) = true then 0 else if bareB p.1 = true then 0 else p.2.size) + usedL l left
theorem usedL_start {left : Lit → Bool} : ∀ {l : List Ob}, (∀ p ∈ l, left (skey p.1) = true) → usedL l left = 0
  | [], _ => rfl
  | q :: l, h => by
    have h1 := h q List.mem_cons_self
    have h2 := usedL_start (l := l) fun p hp => h p (List.mem_cons_of_mem _ hp)
    simp [usedL, h1, h2]
theorem usedL_end {left : Lit → Bool} (h : ∀ k, left k = false) : ∀ l : List Ob, usedL l left = usedO l
  | [] => rfl
  | q :: l => by simp [usedL, usedO, h, usedL_end h l]
theorem usedL_same {left left' : Lit → Bool} : ∀ {l : List Ob}, (∀ p ∈ l, left (skey p.1) = left' (skey p.1)) → usedL l left = usedL l left'
  | [], _ => rfl
  | q :: l, h => by
    simp only [usedL]
    rw [h q List.mem_cons_self, usedL_same fun p hp => h p (List.mem_cons_of_mem _ hp)]
theorem usedL_step {left : Lit → Bool} {x c : ByteArray} (hx : left (skey x) = true) : ∀ {l : List Ob}, RiseO l → lookO l x = some c →
    usedL l (fun z => left z && !z.sameKey (skey x)) = usedL l left + if bareB x = true then 0 else c.size
  | [], _, h => by simp [lookO] at h
  | q :: l, hr, h => by
    rw [riseO_cons] at hr
    simp only [lookO] at h
    by_cases e : q.1 = x
    · rw [if_pos e] at h
      cases h
      have hs : usedL l (fun z => left z && !z.sameKey (skey x)) = usedL l left := usedL_same fun p hp => by
        have : (skey p.1).sameKey (skey x) = false := Maps.sameKey_ne (skey_ne fun e' => sLt_ne (hr.1 p hp) (e.trans e'.symm))
        simp [this]
      have hsk : (skey x).sameKey (skey x) = true := by simp [Lit.sameKey]
      simp only [usedL, hs, e, hx, hsk]
      simp
      omega
    · rw [if_neg e] at h
      have ih := usedL_step hx hr.2 h
      have hq : (skey q.1).sameKey (skey x) = false := Maps.sameKey_ne (skey_ne e)
      simp only [usedL, ih, hq]
      simp
      omega
theorem usedL_le {left : Lit → Bool} : ∀ l : List Ob, usedL l left ≤ usedO l
  | [] => Nat.le_refl _
  | q :: l => by
    have := usedL_le (left := left) l
    simp only [usedL, usedO]
    split <;> omega

theorem size_names {w : World} {b N : Nat} {l : List Ob} {D : DataW Unit} (hr : RiseO l) (h1 : w.ownsMap Try.prog 9 (plainElem Try.prog 9) b N D) (h2 : ∀ s : ByteArray, Maps.has D (skey s) = (lookO l s).isSome) : Maps.size D = l.length := by
  have hs : (((strKeys D).mergeSort (fun x y => decide (x ≤ y))).map ofBytes) = l.map Prod.fst := by
    refine rise_unique (rise_of_sorted (nodup_strKeysS h1)) (namesO_rise hr) fun z => ?_
    have hz := h2 z
    rw [lookO_isSome] at hz
    rw [List.mem_map]
    constructor
    · rintro ⟨x, hx, rfl⟩
      have hx' : x ∈ strKeys D := (List.mergeSort_perm _ _).mem_iff.1 hx
      rw [mem_strKeysS h1] at hx'
      simpa [skey, ofBytes, hx'] using hz
    · intro hz'
      refine ⟨bl z, (List.mergeSort_perm _ _).mem_iff.2 ((mem_strKeysS h1 _).2 ?_), bl_inj (bl_ofBytes _)⟩
      rw [show (.string (bl z) : Lit) = skey z from rfl, hz]
      simpa using hz'
  have hl := congrArg List.length hs
  rw [List.length_map, List.length_map, List.length_mergeSort] at hl
  rw [← hl]
  obtain ⟨es, rfl, _⟩ := h1.entries strKeyed
  exact (List.length_map ..).symm
theorem MapAt.len {w : World} {b N : Nat} {l : List Ob} (h : MapAt w b N l) : l.length ≤ N := by
  have hr := h.rise
  obtain ⟨_, _, _, D, h1, h2, _⟩ := h
  rw [← size_names hr h1 h2]
  exact h1.size_le
theorem MapAt.tight {w : World} {b N M : Nat} {l : List Ob} (h : MapAt w b N l) (hl : l.length ≤ M) (hM : M ≤ 1000000000) : MapAt w b M l := by
  have hr := h.rise
  obtain ⟨_, h0, h9, D, h1, h2, h3⟩ := h
  have hs := size_names hr h1 h2
  obtain ⟨es, clock, hb, F, _, rfl⟩ := h1
  refine ⟨hM, h0, h9, _, ⟨es, clock, hb, F, ?_, rfl⟩, h2, h3⟩
  rw [Maps.size_eq, length_sorted, List.length_map, Array.length_toList] at hs
  omega
/-- No more than a thousand million bytes. -/
theorem used_cap {w : World} {b N : Nat} {l : List Ob} (h : MapAt w b N l) (hN : N ≤ 1000000) (ho : ∀ p ∈ l, OkO p) : usedO l ≤ 65536000000 := by
  have h1 := h.len
  have h2 := usedO_le fun p hp => (ho p hp).2
  have : l.length * 65536 ≤ 1000000 * 65536 := Nat.mul_le_mul_right _ (by omega)
  omega

theorem keyOf_strv {key : Value} {kl : Lit} (h : keyOf Try.prog 9 key = some kl) : ∃ x : ByteArray, key = .string x ∧ kl = skey x ∧ x.size ≤ maxLen := by
  obtain ⟨y, e1, e2, hz⟩ := Maps.keyOf_str Try.underlying9 h
  exact ⟨ofBytes y, e1, by rw [e2, skey, show (ofBytes y).data.toList = y from bl_ofBytes y], by simpa [ByteArray.size] using hz⟩
/-- A step of a loop over a map of objects. -/
theorem wpList_next_obs (w : World) {ops : Array Oper} {rest : List Oper} {o : Oper} {a : Act} {Q : Exit → Act → World → Prop}
    (hg : o.guard = none) (it : Operand) (hop : o.op = Op.next it false) (b r n : Nat) (D : DataW Unit) (l : List Ob) (left : Lit → Bool) (cnt : Nat)
    (ha : ∀ s : ByteArray, D.atKey (skey s) (sd ⟨#[]⟩) = sd ((lookO l s).getD ⟨#[]⟩)) (hh : ∀ s : ByteArray, Maps.has D (skey s) = (lookO l s).isSome)
    (hit : a.eval it = .pointer (some ⟨r, 0, none⟩)) (h : w.ranges Try.prog 9 (plainElem Try.prog 9) b r n D left cnt)
    (hDone : (∀ kl, left kl = false) → wpList Try.prog ops Q rest (a.put o.dst (.tuple #[.bool false])) w)
    (hMore : ∀ (x c : ByteArray) (w' : World) (cnt' : Nat), left (skey x) = true → lookO l x = some c → w'.ranges Try.prog 9 (plainElem Try.prog 9) b r n D (fun z => left z && !z.sameKey (skey x)) cnt' → cnt' < cnt →
      w.grownBy w' (some r) → w'.heap.size = w.heap.size → (Instr.entry (.pointer (some ⟨r, 0, none⟩))).run Try.prog w' = .ok (.tuple #[.string x, .string c]) w' → wpList Try.prog ops Q rest (a.put o.dst (.tuple #[.bool true, .string x, .string c])) w') :
    wpList Try.prog ops Q (o :: rest) a w := by
  refine wpList_next_ranges w hg it hop 9 strKeyed (plainElem Try.prog 9) Value.string Value.string (fun key kl hk => ?_) (fun v y hv => ?_) b r n D left cnt hit h (fun _ hl => hDone hl) ?_
  · obtain ⟨x, e, _⟩ := keyOf_strv hk
    exact ⟨x, e⟩
  · obtain ⟨x, e, _⟩ := plainElem_string_inv Try.underlying9 hv
    exact ⟨x, e⟩
  · intro x c kl y w' cnt' hk hl hv hat hr hlt hg' hs hen
    obtain ⟨x', e1, rfl, _⟩ := keyOf_strv hk
    cases e1
    obtain ⟨c', e2, rfl, _⟩ := plainElem_string_inv Try.underlying9 hv
    cases e2
    refine hMore x c w' cnt' hl ?_ hr hlt hg' hs hen
    have h1 := has_true_of_atKey hat
    rw [hh] at h1
    have h2 := hat (sd ⟨#[]⟩)
    rw [ha] at h2
    cases hl2 : lookO l x with
    | none => rw [hl2] at h1; simp at h1
    | some d =>
      rw [hl2] at h2
      exact congrArg some (bl_inj (by simpa [sd] using h2))

set_option maxHeartbeats 1000000 in
theorem store_used (b gm sm N : Nat) (V : Value) (s : Sto) (w : World) (h : StoIn w b gm sm V N s) :
    Calls Try.prog 65 #[.pointer (some ⟨b, 0, none⟩)] w fun e w' => e = .returned (.int .i64 (usedO s.seen : Nat)) ∧ Below w.heap.size w w' := by
  obtain ⟨c0, c1, c2, c3, c4, c5⟩ := h.box.cells
  have hcap := Lib.hid (used_cap h.seen h.cap h.ns)
  have hr := Lib.hid h.seen.rise
  have ho := Lib.hid h.ns
  obtain ⟨_, _, _, D, hD, hh, ha⟩ := h.seen
  replace hh := Lib.hid hh
  replace ha := Lib.hid ha
  clear h
  go_enter Try.func65, Try.ntmps65
  go_wp2_with (first | (at_range; refine wpList_range_own _ rfl _ 66 rfl 9 9 strKeyed Try.underlying66 (plainElem Try.prog 9) sm N D rfl hD ?_; intro w0 hrg0 hg0 hs0) | fail)
  go_frame
  go_loopw [3, 4, 5] (fun n _ _ wr => ∃ (left : Lit → Bool) (cnt : Nat), wr.ranges Try.prog 9 (plainElem Try.prog 9) sm w.heap.size N D left cnt ∧ n = .int .i64 (usedL s.seen left : Nat) ∧ Below w.heap.size w wr) (fun _ _ _ wr => wr.rangeLeft sm w.heap.size)
  case atStart =>
    refine ⟨_, _, hrg0, ?_, Below.of_grown hg0⟩
    rw [usedL_start fun p hp => by rw [hh.out, mem_lookO hr.out hp]; rfl]
    rfl
  case round =>
    obtain ⟨left, cnt, hrg, rfl, hbw⟩ := hrel
    go_wp2_with (first
      | (at_next; refine wpList_next_obs _ rfl _ rfl sm w.heap.size N D s.seen left cnt ha.out hh.out rfl hrg ?_ ?_)
      | fail)
    · intro hl0
      have hu := usedL_end hl0 s.seen
      replace hl0 := Lib.hid hl0
      obtain ⟨u, hu'⟩ : ∃ x, x = usedL s.seen left := ⟨_, rfl⟩
      rw [← hu'] at hu ⊢
      replace hu := Lib.hid hu
      replace hu' := Lib.hid hu'
      go_wp2_with fail
      go_ret
      exact ⟨by rw [hu.out]; rfl, hbw⟩
    · intro x c w1 cnt1 hl hlo hrg1 hlt hg1 hs1 hen
      have hstep := usedL_step hl hr.out hlo
      have hle := usedL_le (left := fun z => left z && !z.sameKey (skey x)) s.seen
      have hc1 := hcap.out
      have hcs : c.size ≤ 65536 := (ho.out _ (lookO_mem hlo)).2
      have hu9 : usedL s.seen left ≤ 65536000000 := Nat.le_trans (usedL_le _) hcap.out
      obtain ⟨u, hu'⟩ : ∃ x, x = usedL s.seen left := ⟨_, rfl⟩
      rw [← hu'] at hstep hu9 ⊢
      replace hu' := Lib.hid hu'
      replace hlo := Lib.hid hlo
      replace hl := Lib.hid hl
      replace hstep := Lib.hid hstep
      clear hle
      have hb1 : Below w.heap.size w w1 := hbw.grown hg1 (by have := hbw.size; omega) (fun j hj => by cases hj; exact Nat.le_refl _)
      go_wp2_with fail
      refine (store_bare x w1).mono ?_
      rintro e w2 ⟨rfl, rfl⟩
      cases hx : bareB x
      · replace hx := Lib.hid hx
        go_wp2_with fail
        go_roundw
        case rel => exact ⟨_, cnt1, hrg1, by rw [hstep.out, hx.out]; simp, hb1⟩
        case measure => rw [hrg1.left_eq, hrg.left_eq]; exact hlt
      · replace hx := Lib.hid hx
        go_wp2_with fail
        go_roundw
        case rel => exact ⟨_, cnt1, hrg1, by rw [hstep.out, hx.out]; simp, hb1⟩
        case measure => rw [hrg1.left_eq, hrg.left_eq]; exact hlt
end Go.Proofs.Ytfkonpmnclknaaa
/-
  The methods of a store that change little: refused, settle, names, New, Get, List, Sync, Up, Sound.
-/
namespace Go.Proofs.Ytfkonpmnclknaaa
open Go.RowKit Go.Maps
attribute [local go_sem ↓] Go.wp_at_zero Go.wp_at_succ

theorem own_at {b gm sm : Nat} {V : Value} (h : (b :: gm :: sm :: V.ownBlock.toList).Nodup) : b ≠ gm ∧ b ≠ sm ∧ gm ≠ sm ∧ V.ownBlock ≠ some b ∧ V.ownBlock ≠ some gm ∧ V.ownBlock ≠ some sm := by
  simp only [List.nodup_cons, List.mem_cons, not_or] at h
  obtain ⟨⟨h1, h2, h3⟩, ⟨h4, h5⟩, h6, _⟩ := h
  exact ⟨h1, h2, h4, fun e => h3 (by simp [e]), fun e => h5 (by simp [e]), fun e => h6 (by simp [e])⟩
theorem nodup_own {b gm sm : Nat} {V : Value} (h1 : b ≠ gm) (h2 : b ≠ sm) (h3 : gm ≠ sm) (h4 : V.ownBlock ≠ some b) (h5 : V.ownBlock ≠ some gm) (h6 : V.ownBlock ≠ some sm) : (b :: gm :: sm :: V.ownBlock.toList).Nodup := by
  cases hv : V.ownBlock with
  | none => simp [h1, h2, h3]
  | some g =>
    rw [hv] at h4 h5 h6
    have k4 : ¬ b = g := fun e => h4 (by rw [e])
    have k5 : ¬ gm = g := fun e => h5 (by rw [e])
    have k6 : ¬ sm = g := fun e => h6 (by rw [e])
    simp [h1, h2, h3, k4, k5, k6]
/-- A store of the box: all but the box stands. -/
theorem StoIn.set {w : World} {b gm sm N : Nat} {V : Value} {s s' : Sto} (h : StoIn w b gm sm V N s) {o : Nat} {u : Value} (hb : SB (w.setCell ⟨b, o, none⟩ u) b (.map (some gm)) V (.map (some sm)) (.bool s'.down) (.int .i64 s'.refuse) (.int .i64 s'.room))
    (hg : s'.good = s.good) (hs : s'.seen = s.seen) (hw : s'.writes = s.writes) (h1 : -1 ≤ s'.refuse) (h2 : s'.refuse ≤ 9223372036854775807) (h3 : s'.room ≤ 9223372036854775807) (h4 : -1 ≤ s'.room) : StoIn (w.setCell ⟨b, o, none⟩ u) b gm sm V N s' := by
  obtain ⟨a1, a2, a3, a4, a5, a6⟩ := own_at h.ap
  exact
    { box := hb
      good := by rw [hg]; exact h.good.setOther (fun e => a1 e.symm) u
      seen := by rw [hs]; exact h.seen.setOther (fun e => a2 e.symm) u
      own := by rw [hw]; exact h.own.blockS fun i e => Go.Deep.blk_setCell_other _ _ _ _ (fun e' => a4 (by rw [e, e']))
      ap := h.ap
      ng := by rw [hg]; exact h.ng
      ns := by rw [hs]; exact h.ns
      nw := by rw [hw]; exact h.nw
      len := by rw [hw, hg]; exact h.len
      cap := h.cap
      rf := h1, rf9 := h2, rm9 := h3, rm := h4 }

/-- Is a write that is tried refused; what is left. -/
def Sto.refNow (s : Sto) : Bool := decide (s.refuse = 0)
def Sto.tried (s : Sto) : Sto := if s.refuse < 0 then s else { s with refuse := s.refuse - 1 }
theorem tried_good (s : Sto) : s.tried.good = s.good := by unfold Sto.tried; split <;> rfl
theorem tried_seen (s : Sto) : s.tried.seen = s.seen := by unfold Sto.tried; split <;> rfl
theorem tried_writes (s : Sto) : s.tried.writes = s.writes := by unfold Sto.tried; split <;> rfl

set_option maxHeartbeats 1000000 in
theorem store_refused (b gm sm N : Nat) (V : Value) (s : Sto) (w : World) (h : StoIn w b gm sm V N s) :
    Calls Try.prog 66 #[.pointer (some ⟨b, 0, none⟩)] w fun e w' => e = .returned (.bool s.refNow) ∧ StoIn w' b gm sm V N s.tried ∧ But [b] w w' := by
  obtain ⟨c0, c1, c2, c3, c4, c5⟩ := h.box.cells
  have f4 := h.box.frozen 4
  have r1 := h.rf
  have r9 := h.rf9
  have hh := Lib.hid h
  by_cases hr : s.refuse < 0
  · have h1 : s.refNow = false := by unfold Sto.refNow; rw [decide_eq_false_iff_not]; omega
    have h2 : Hid (s.tried = s) := by unfold Hid Sto.tried; rw [if_pos hr]
    rw [h1]
    clear h h1
    go_enter Try.func66, Try.ntmps66
    go_wp2_with fail
    go_ret
    exact ⟨rfl, by rw [h2.out]; exact hh.out, But.refl _ _⟩
  · have h2 : Hid (s.tried = { s with refuse := s.refuse - 1 }) := by unfold Hid Sto.tried; rw [if_neg hr]
    have hbx := h.box.set4 (.int .i64 (s.refuse - 1))
    obtain ⟨d0, d1, d2, d3, d4, d5⟩ := hbx.cells
    replace hbx := Lib.hid hbx
    clear h
    by_cases h0 : s.refuse = 0
    · have h1 : s.refNow = true := by unfold Sto.refNow; rw [decide_eq_true_eq]; omega
      have hlt : s.refuse - 1 < 0 := by omega
      rw [h1]
      replace h1 := Lib.hid h1
      replace h0 := Lib.hid h0
      go_enter Try.func66, Try.ntmps66
      go_wp2_with fail
      go_ret
      exact ⟨rfl, by rw [h2.out]; exact hh.out.set hbx.out rfl rfl rfl (by have := h0.out; simp; omega) (by simp; omega) hh.out.rm9 hh.out.rm, But.of_set _ (by simp)⟩
    · have h1 : s.refNow = false := by unfold Sto.refNow; rw [decide_eq_false_iff_not]; omega
      have hlt : ¬ s.refuse - 1 < 0 := by omega
      rw [h1]
      replace h1 := Lib.hid h1
      replace h0 := Lib.hid h0
      go_enter Try.func66, Try.ntmps66
      go_wp2_with fail
      go_ret
      exact ⟨rfl, by rw [h2.out]; exact hh.out.set hbx.out rfl rfl rfl (by simp; omega) (by simp; omega) hh.out.rm9 hh.out.rm, But.of_set _ (by simp)⟩

def Sto.settled (s : Sto) : Sto := { s with good := s.seen, writes := [] }
set_option maxHeartbeats 1000000 in
theorem store_settle (b : Nat) (F : List Nat) (N : Nat) (s : Sto) (w : World) (h : StoAt w b F N s) :
    Calls Try.prog 82 #[.pointer (some ⟨b, 0, none⟩)] w fun e w' => e = .returned (.tuple #[]) ∧ StoTo b F N s.settled w w' := by
  obtain ⟨gm, sm, V, rfl, h⟩ := h
  obtain ⟨c0, c1, c2, c3, c4, c5⟩ := h.box.cells
  have hcl := maps_CloneS sm N s.seen w h.seen
  go_enter Try.func82, Try.ntmps82
  go_wp2_with fail
  refine hcl.mono ?_
  rintro e w1 ⟨rfl, hm, hz, hb⟩
  have h1 := h.block fun i hi => hb.block i (h.lt i hi)
  obtain ⟨a1, a2, a3, a4, a5, a6⟩ := own_at h.ap
  obtain ⟨d0, d1, d2, d3, d4, d5⟩ := h1.box.cells
  have f0 := h1.box.frozen 0
  have f1 := h1.box.frozen 1
  clear c0 c1 c2 c3 c4 c5
  have hbx := Lib.hid ((h1.box.set0 (.map (some w.heap.size))).set1 (.slice none 0 0))
  have hlt := h.box.lt
  have hls := h.seen.lt
  replace h := Lib.hid h
  replace h1 := Lib.hid h1
  replace hm := Lib.hid hm
  go_wp2_with fail
  go_end0
  refine ⟨rfl, b :: w.heap.size :: sm :: [], ⟨w.heap.size, sm, .slice none 0 0, rfl, ?_⟩, ?_, ?_⟩
  · exact
    { box := hbx.out
      good := (hm.out.setOther (by simp; omega) _).setOther (by simp; omega) _
      seen := (h1.out.seen.setOther (fun e => a2 e.symm) _).setOther (fun e => a2 e.symm) _
      own := Owns.nil_
      ap := nodup_own (by omega) a2 (by omega) (by simp [Value.ownBlock]) (by simp [Value.ownBlock]) (by simp [Value.ownBlock])
      ng := h.out.ns, ns := h.out.ns, nw := by simp [Sto.settled], len := by have := h.out.seen.len; simpa [Sto.settled] using this, cap := h.out.cap, rf := h.out.rf, rf9 := h.out.rf9, rm9 := h.out.rm9, rm := h.out.rm }
  · exact ((But.of_below hb).trans (But.of_set (F := [b]) _ (by simp)) (by simp)).trans (But.of_set (F := [b]) _ (by simp)) (by simp)
  · intro i hi
    simp at hi ⊢
    omega
end Go.Proofs.Ytfkonpmnclknaaa
