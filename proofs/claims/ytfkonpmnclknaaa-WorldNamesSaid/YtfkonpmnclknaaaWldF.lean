/-
  Up, Objects, Suspects, Strike, Clear of a world.
-/
import Derived.Test.YtfkonpmnclknaaaWldD
import Derived.Test.YtfkonpmnclknaaaKrip
import Derived.Test.YtfkonpmnclknaaaHeld
namespace Go.Proofs.Ytfkonpmnclknaaa
open Go.RowKit
attribute [local go_sem ↓] Go.wp_at_zero Go.wp_at_succ

def Wld.up (m : Wld) (i : Int) : Bool := m.has i && match m.stores[i.toNat]? with
  | some p => !p.1.down
  | none => false
set_option maxHeartbeats 1000000 in
theorem world_Up (b N : Nat) (X : List Nat) (m : Wld) (i : Int) (w : World) (h : WldAt w b X N m) :
    Calls Try.prog 41 #[.pointer (some ⟨b, 0, none⟩), .int .i64 i] w fun e w' => e = .returned (.bool (m.up i)) ∧ w' = w := by
  have hH := world_has b N X m i w h
  cases hh : m.has i with
  | false =>
    have hr : Hid (m.up i = false) := by unfold Hid Wld.up; rw [hh]; rfl
    rw [hh] at hH
    replace hh := Lib.hid hh
    clear h
    go_enter Try.func41, Try.ntmps41
    go_wp2_with fail
    refine hH.mono ?_
    rintro e w1 ⟨rfl, rfl⟩
    go_wp2_with fail
    go_ret
    exact ⟨by rw [hr.out]; rfl, rfl⟩
  | true =>
    rw [hh] at hH
    obtain ⟨k, rfl, hk, hkt⟩ := has_at hh
    obtain ⟨V, l, f, rfl, h⟩ := h
    obtain ⟨A, n, c, rfl⟩ : ∃ A m c, V = .slice A m c := by obtain ⟨A, c, e⟩ := Owns.form h.own; exact ⟨A, _, c, e⟩
    have hn : n = m.stores.length := by rw [← h.len]; exact (Owns.row (k := 2) (fun x => oneE.len x) h.own).1.symm
    obtain ⟨s, u, q, hx, hq, hst⟩ := h.at_ (i := k) hk
    obtain ⟨b0, off, pr, rfl, hb0, hpr, o0, o1⟩ := (Owns.row (k := 2) (fun x => oneE.len x) h.own).one (i := k) (by omega)
    obtain rfl : pr = (q, u) := by rw [hq] at hpr; exact (Option.some.inj hpr).symm
    obtain ⟨z0, z1, z2, z3⟩ := h.box.cells
    have hU := store_Up q (f k) N s w hst
    have hr : Hid (m.up k = !s.down) := by unfold Hid Wld.up; rw [hh, hkt, hx]; rfl
    have hkn : k < n := by omega
    replace hh := Lib.hid hh
    replace hn := Lib.hid hn
    clear h hx hq hst hpr hkt
    go_enter Try.func41, Try.ntmps41
    go_wp2_with fail
    refine hH.mono ?_
    rintro e w1 ⟨rfl, rfl⟩
    go_wp2_with fail
    refine hU.mono ?_
    rintro e w1 ⟨rfl, rfl⟩
    go_wp2_with fail
    go_ret
    exact ⟨by rw [hr.out]; rfl, rfl⟩

def Wld.objs (m : Wld) (i : Int) : List Ob := if m.has i = true then match m.stores[i.toNat]? with
  | some p => p.1.seen
  | none => [] else []
set_option maxHeartbeats 1000000 in
theorem world_Objects (b N : Nat) (X : List Nat) (m : Wld) (i : Int) (w : World) (h : WldAt w b X N m) :
    Calls Try.prog 42 #[.pointer (some ⟨b, 0, none⟩), .int .i64 i] w fun e w' => ∃ v, e = .returned v ∧ objE.Own w' w.heap.size v (m.objs i) ∧ Below w.heap.size w w' := by
  have hH := world_has b N X m i w h
  cases hh : m.has i with
  | false =>
    have hr : Hid (m.objs i = []) := by unfold Hid Wld.objs; rw [hh]; rfl
    rw [hh] at hH
    replace hh := Lib.hid hh
    clear h
    go_enter Try.func42, Try.ntmps42
    go_wp2_with fail
    refine hH.mono ?_
    rintro e w1 ⟨rfl, rfl⟩
    go_wp2_with fail
    go_ret
    exact ⟨.slice none 0 0, rfl, by rw [hr.out]; exact Owns.nil_, Below.refl _ _⟩
  | true =>
    rw [hh] at hH
    obtain ⟨k, rfl, hk, hkt⟩ := has_at hh
    obtain ⟨V, l, f, rfl, h⟩ := h
    obtain ⟨A, n, c, rfl⟩ : ∃ A m c, V = .slice A m c := by obtain ⟨A, c, e⟩ := Owns.form h.own; exact ⟨A, _, c, e⟩
    have hn : n = m.stores.length := by rw [← h.len]; exact (Owns.row (k := 2) (fun x => oneE.len x) h.own).1.symm
    obtain ⟨s, u, q, hx, hq, hst⟩ := h.at_ (i := k) hk
    obtain ⟨b0, off, pr, rfl, hb0, hpr, o0, o1⟩ := (Owns.row (k := 2) (fun x => oneE.len x) h.own).one (i := k) (by omega)
    obtain rfl : pr = (q, u) := by rw [hq] at hpr; exact (Option.some.inj hpr).symm
    obtain ⟨z0, z1, z2, z3⟩ := h.box.cells
    have hU := store_Objects q (f k) N s w hst
    have hr : Hid (m.objs k = s.seen) := by unfold Hid Wld.objs; rw [hh, hkt, hx]; rfl
    have hkn : k < n := by omega
    replace hh := Lib.hid hh
    replace hn := Lib.hid hn
    clear h hx hq hst hpr hkt
    go_enter Try.func42, Try.ntmps42
    go_wp2_with fail
    refine hH.mono ?_
    rintro e w1 ⟨rfl, rfl⟩
    go_wp2_with fail
    refine hU.mono ?_
    rintro e w1 ⟨v, rfl, ho, hb⟩
    obtain ⟨A9, m9, c9, rfl⟩ : ∃ A m c, v = .slice A m c := by obtain ⟨A, c, e⟩ := Owns.form ho; exact ⟨A, _, c, e⟩
    replace ho := Lib.hid ho
    go_wp2_with fail
    go_ret
    exact ⟨_, rfl, by rw [hr.out]; exact ho.out, hb⟩

def intE : Elem Int where
  T := 3
  S := 31
  k := 1
  bytes := 8
  enc := intCell
  z := .int .i64 0
  und := Try.underlying31
  info := by kernel_rfl
  zc := rfl
  pos := by decide
  small := by decide
  len := fun _ => rfl
  one := fun x u hu => by simp [intCell] at hu; subst hu; rfl

/-- The numbers of those that are suspect, of the first k. -/
def suspTo (l : List Bool) (k : Nat) : List Int := List.map (fun i : Nat => (i : Int)) (List.filter (fun i => l.getD i false) (List.range k))
theorem suspTo_succ (l : List Bool) (k : Nat) : suspTo l (k + 1) = if l.getD k false = true then suspTo l k ++ [(k : Int)] else suspTo l k := by
  unfold suspTo
  rw [List.range_succ, List.filter_append, List.map_append]
  cases h : l.getD k false <;> simp only [List.filter_cons, h, List.filter_nil, List.map_cons, List.map_nil] <;> simp
theorem suspTo_len (l : List Bool) (k : Nat) : (suspTo l k).length ≤ k := by
  unfold suspTo
  rw [List.length_map]
  exact Nat.le_trans (List.length_filter_le _ _) (by simp)
def Wld.susp (m : Wld) : List Bool := m.stores.map Prod.snd
def Wld.suspects (m : Wld) : List Int := suspTo m.susp m.stores.length

set_option maxHeartbeats 4000000 in
set_option maxRecDepth 100000 in
theorem world_Suspects (b N : Nat) (X : List Nat) (m : Wld) (w : World) (h : WldAt w b X N m) :
    Calls Try.prog 34 #[.pointer (some ⟨b, 0, none⟩)] w fun e w' => ∃ v, e = .returned v ∧ intE.Own w' w.heap.size v m.suspects ∧ Below w.heap.size w w' := by
  obtain ⟨V, l, f, rfl, h⟩ := h
  obtain ⟨A, n, c, rfl⟩ : ∃ A m c, V = .slice A m c := by obtain ⟨A, c, e⟩ := Owns.form h.own; exact ⟨A, _, c, e⟩
  have hn : n = m.stores.length := by rw [← h.len]; exact (Owns.row (k := 2) (fun x => oneE.len x) h.own).1.symm
  have hrow := Owns.row (k := 2) (fun x => oneE.len x) h.own
  obtain ⟨z0, z1, z2, z3⟩ := h.box.cells
  have hf : n ≤ 12 := by rw [hn]; exact h.few
  have hsu : ∀ k p, l[k]? = some p → m.susp.getD k false = p.2 := fun k p hp => by
    have hk : k < m.stores.length := by rw [← h.len]; exact (List.getElem?_eq_some_iff.1 hp).1
    obtain ⟨s, u, q, hx, hq, _⟩ := h.at_ hk
    rw [hp] at hq
    obtain rfl := Option.some.inj hq
    unfold Wld.susp
    rw [List.getD_eq_getElem?_getD, List.getElem?_map, hx]
    rfl
  have hlen : Hid (m.suspects = suspTo m.susp n) := by unfold Hid Wld.suspects; rw [hn]
  replace hsu := Lib.hid hsu
  replace hn := Lib.hid hn
  clear h
  go_enter Try.func34, Try.ntmps34
  go_wp2_with fail
  go_loopw [3, 4, 5, 13] (fun v _ _ ti wr => ∃ k : Nat, k ≤ n ∧ ti = .int .i64 k ∧ intE.Own wr w.heap.size v (suspTo m.susp k) ∧ Below w.heap.size w wr) (fun _ _ _ ti _ => n - (intOf ti).toNat)
  case atStart => exact ⟨0, Nat.zero_le _, rfl, Owns.nil_, Below.refl _ _⟩
  case round =>
    obtain ⟨k, hk, rfl, ho, hbr⟩ := hrel
    obtain ⟨wp, rfl⟩ : ∃ x : World, x = wr := ⟨_, rfl⟩
    by_cases hlt : k < n
    · obtain ⟨b0, off, p, rfl, hb0, hp, o0, o1⟩ := (hrow.below hbr).one hlt
      have hs := hsu.out k p hp
      have hl := suspTo_len m.susp k
      have hzw := hbr.size
      obtain ⟨q, u⟩ := p
      dsimp only at o0 o1 hs
      replace hp := Lib.hid hp
      cases u with
      | false =>
        have hs2 : Hid (suspTo m.susp (k + 1) = suspTo m.susp k) := by unfold Hid; rw [suspTo_succ, hs]; rfl
        go_wp2_with fail
        go_roundw
        case rel => exact ⟨k + 1, by omega, by go_num, by rw [hs2.out]; exact (by (repeat (first | with_reducible refine Owns.alloc ?_ _ | with_reducible refine Owns.drew ?_ | with_reducible refine Owns.drewN ?_ _)); exact ho), (by repeat (first | exact Below.refl _ _ | assumption | refine Below.drew ?_ | refine below_drewN ?_ _ | refine Below.alloc ?_ (by first | omega | (simp; try omega)) _ | refine Below.setCell ?_ (by first | omega | (simp; try omega)) _ | (refine Below.trans ?_ (Below.mono (by assumption) (by first | omega | (simp; try omega))))))⟩
        case measure => simp [intOf]; omega
      | true =>
        have hs2 : Hid (suspTo m.susp (k + 1) = suspTo m.susp k ++ [(k : Int)]) := by unfold Hid; rw [suspTo_succ, hs]; rfl
        go_wp2_with (at_builtin; go_must (refine Elem.wpList_one intE rfl (.tmp 20) (.tmp 22) rfl w.heap.size _ (suspTo m.susp k) rfl _ _ ((k : Nat) : Int) rfl (Owns.alloc (Owns.alloc ho _) _) (fun j u hu => by rcases j with _ | _ | _ | j <;> simp [intE, intCell] at hu <;> subst hu <;> go_simp) (by first | omega | (simp; omega)) (by first | omega | (simp; try omega)) ?_); intro v9 w9 hown9 hg9 hat9; have hbb9 : Below w.heap.size w w9 := Below.grownOwn (by repeat (first | exact Below.refl _ _ | assumption | refine Below.drew ?_ | refine below_drewN ?_ _ | refine Below.alloc ?_ (by first | omega | (simp; try omega)) _ | refine Below.setCell ?_ (by first | omega | (simp; try omega)) _ | (refine Below.trans ?_ (Below.mono (by assumption) (by first | omega | (simp; try omega)))))) (Owns.alloc (Owns.alloc ho _) _) (Nat.le_refl _) (by first | omega | (simp; try omega)) hg9; have hzz9 := hbb9.size)
        go_roundw
        case rel => exact ⟨k + 1, by omega, by go_num, by rw [hs2.out]; exact hown9, (by repeat (first | exact Below.refl _ _ | assumption | refine Below.drew ?_ | refine below_drewN ?_ _ | refine Below.alloc ?_ (by first | omega | (simp; try omega)) _ | refine Below.setCell ?_ (by first | omega | (simp; try omega)) _ | (refine Below.trans ?_ (Below.mono (by assumption) (by first | omega | (simp; try omega))))))⟩
        case measure => simp [intOf]; omega
    · obtain rfl : k = n := by omega
      obtain ⟨A9, m9, c9, rfl⟩ : ∃ A m c, u3 = .slice A m c := by obtain ⟨A, c, e⟩ := Owns.form ho; exact ⟨A, _, c, e⟩
      replace ho := Lib.hid ho
      go_wp2_with fail
      go_ret
      exact ⟨_, rfl, by rw [hlen.out]; exact ho.out, hbr⟩
end Go.Proofs.Ytfkonpmnclknaaa
/-
  Strike, Clear of a world.
-/
namespace Go.Proofs.Ytfkonpmnclknaaa
open Go.RowKit
attribute [local go_sem ↓] Go.wp_at_zero Go.wp_at_succ

def Wld.mark (m : Wld) (i : Nat) (u : Bool) : Wld := { m with stores := m.stores.modify i fun p => (p.1, u) }
theorem mark_at {m : Wld} {i : Nat} {u : Bool} (j : Nat) : (m.mark i u).stores[j]? = (m.stores[j]?).map fun p => if i = j then (p.1, u) else p := by
  unfold Wld.mark
  rw [List.getElem?_modify]
  split <;> rfl
theorem Wld.ext' {m m' : Wld} (h1 : ∀ j : Nat, m.stores[j]? = m'.stores[j]?) (h2 : m.calls = m'.calls) (h3 : m.left = m'.left) (h4 : m.dark = m'.dark) : m = m' := by
  obtain ⟨a, b, c, d⟩ := m
  obtain ⟨a', b', c', d'⟩ := m'
  dsimp only at *
  subst h2 h3 h4
  rw [List.ext_getElem? h1]

theorem WldIn.rowForm {w : World} {b N : Nat} {V : Value} {l : List (Nat × Bool)} {f : Nat → List Nat} {m : Wld} (h : WldIn w b V l f N m) (hn : 0 < m.stores.length) : ∃ g c, V = .slice (some ⟨g, 0, none⟩) m.stores.length c ∧ (∀ o, w.frozen? ⟨g, o, none⟩ = false) := by
  rcases h.own.2 with ⟨e, h0⟩ | ⟨g, cap, cur, e, hg, hh, _⟩
  · rw [h.len] at h0
    omega
  · rw [h.len] at e
    exact ⟨g, cap, e, fun o => by simp [World.frozen?, hh]⟩
/-- A mark is another one. -/
theorem WldIn.mark {w : World} {b N g n c i q : Nat} {l : List (Nat × Bool)} {f : Nat → List Nat} {m : Wld} {s : Sto} {u : Bool} (h : WldIn w b (.slice (some ⟨g, 0, none⟩) n c) l f N m) (hx : m.stores[i]? = some (s, u)) (hq : l[i]? = some (q, u)) (u' : Bool) :
    WldIn (w.setCell ⟨g, i * 2 + 1, none⟩ (.bool u')) b (.slice (some ⟨g, 0, none⟩) n c) (l.set i (q, u')) f N (m.mark i u') := by
  have hgb : g ≠ b := fun e => h.apV (by rw [e]; rfl)
  have hml : (m.mark i u').stores.length = m.stores.length := by simp [Wld.mark]
  exact
  { box := h.box.block (Go.Deep.blk_setCell_other _ _ _ _ (fun e => hgb e.symm))
    own := Owns.setAt (k := 2) (fun x => oneE.len x) h.own (j := 1) hq rfl (by decide)
    len := by rw [hml, List.length_set]; exact h.len
    sto := fun j t v hj => by
      rw [mark_at] at hj
      cases hmj : m.stores[j]? with
      | none => rw [hmj] at hj; simp at hj
      | some p =>
        obtain ⟨t0, v0⟩ := p
        rw [hmj] at hj
        simp only [Option.map_some, Option.some.injEq] at hj
        have hjl := (List.getElem?_eq_some_iff.1 hmj).1
        obtain ⟨q', h1, h2⟩ := h.sto j t0 v0 hmj
        have h3 := h2.block (w' := w.setCell ⟨g, i * 2 + 1, none⟩ (.bool u')) fun x hxf => Go.Deep.blk_setCell_other _ _ _ _ (fun e => h.apr j g hjl rfl (by rw [← show x = g from e]; exact hxf))
        by_cases hij : i = j
        · subst hij
          rw [if_pos rfl] at hj
          cases hj
          rw [hq] at h1
          cases h1
          exact ⟨q, by rw [List.getElem?_set_self (by rw [h.len]; exact hjl)], h3⟩
        · rw [if_neg hij] at hj
          cases hj
          exact ⟨q', by rw [List.getElem?_set_ne hij]; exact h1, h3⟩
    apV := h.apV
    apb := by rw [hml]; exact h.apb
    apr := by rw [hml]; exact h.apr
    ap := by rw [hml]; exact h.ap
    few := by rw [hml]; exact h.few
    calls := h.calls, lo := h.lo, hi := h.hi }

def Wld.clearTo (m : Wld) (k : Nat) : Wld := { m with stores := m.stores.mapIdx fun i p => (p.1, p.2 && !(decide (i < k) && p.1.sound)) }
def Wld.clear (m : Wld) : Wld := { m with stores := m.stores.map fun p => (p.1, p.2 && !p.1.sound) }
theorem clearTo_at (m : Wld) (k j : Nat) : (m.clearTo k).stores[j]? = (m.stores[j]?).map fun p => (p.1, p.2 && !(decide (j < k) && p.1.sound)) := by
  unfold Wld.clearTo
  rw [List.getElem?_mapIdx]
theorem clearTo_zero (m : Wld) : m.clearTo 0 = m := Wld.ext' (fun j => by rw [clearTo_at]; cases m.stores[j]? <;> simp) rfl rfl rfl
theorem clearTo_all (m : Wld) : m.clearTo m.stores.length = m.clear := Wld.ext' (fun j => by
  rw [clearTo_at]
  unfold Wld.clear
  rw [List.getElem?_map]
  cases h : m.stores[j]? with
  | none => rfl
  | some p => simp [(List.getElem?_eq_some_iff.1 h).1]) rfl rfl rfl
theorem clearTo_yes {m : Wld} {k : Nat} {s : Sto} {u : Bool} (hx : m.stores[k]? = some (s, u)) (hs : s.sound = true) : (m.clearTo k).mark k false = m.clearTo (k + 1) := Wld.ext' (fun j => by
  rw [mark_at, clearTo_at, clearTo_at]
  by_cases hj : k = j
  · subst hj
    rw [hx]
    simp [hs]
  · cases m.stores[j]? with
    | none => rfl
    | some p =>
      have : (j < k) ↔ (j < k + 1) := by omega
      simp [hj, this]) rfl rfl rfl
theorem clearTo_no {m : Wld} {k : Nat} {s : Sto} {u : Bool} (hx : m.stores[k]? = some (s, u)) (hs : s.sound = false) : m.clearTo k = m.clearTo (k + 1) := Wld.ext' (fun j => by
  rw [clearTo_at, clearTo_at]
  by_cases hj : k = j
  · subst hj
    rw [hx]
    simp [hs]
  · cases m.stores[j]? with
    | none => rfl
    | some p =>
      have : (j < k) ↔ (j < k + 1) := by omega
      simp [this]) rfl rfl rfl

set_option maxHeartbeats 4000000 in
set_option maxRecDepth 100000 in
theorem world_Clear (b N : Nat) (X : List Nat) (m : Wld) (w : World) (h : WldAt w b X N m) (hne : 0 < m.stores.length) :
    Calls Try.prog 27 #[.pointer (some ⟨b, 0, none⟩)] w fun e w' => e = .returned (.tuple #[]) ∧ WldTo b X N m.clear w w' := by
  obtain ⟨V, l, f, rfl, h⟩ := h
  obtain ⟨g, c, rfl, hfz⟩ := h.rowForm hne
  obtain ⟨z0, z1, z2, z3⟩ := h.box.cells
  have hgX : g ∈ wBlocks b (.slice (some ⟨g, 0, none⟩) m.stores.length c) f m.stores.length := mem_wBlocks.2 (.inr (.inl rfl))
  have hst0 : WldIn w b (.slice (some ⟨g, 0, none⟩) m.stores.length c) l f N (m.clearTo 0) := by rw [clearTo_zero]; exact h
  have hcl : ∀ k, (m.clearTo k).stores.length = m.stores.length := fun k => by simp [Wld.clearTo]
  have hfew := h.few
  obtain ⟨n, hn⟩ : ∃ n, n = m.stores.length := ⟨_, rfl⟩
  have hbx := Lib.hid h
  replace hcl := Lib.hid hcl
  replace hgX := Lib.hid hgX
  clear h
  rw [← hn] at z0 hst0 hfew
  replace hn := Lib.hid hn
  go_enter Try.func27, Try.ntmps27
  go_wp2_with fail
  go_loopw [2, 10] (fun _ ti wr => ∃ (k : Nat) (l' : List (Nat × Bool)), k ≤ n ∧ ti = .int .i64 k ∧ WldIn wr b (.slice (some ⟨g, 0, none⟩) n c) l' f N (m.clearTo k) ∧ But [g] w wr) (fun _ ti _ => n - (intOf ti).toNat)
  case atStart => exact ⟨0, l, Nat.zero_le _, rfl, hst0, But.refl _ _⟩
  case round =>
    obtain ⟨k, l', hk, rfl, hW, hbr⟩ := hrel
    obtain ⟨wp, rfl⟩ : ∃ x : World, x = wr := ⟨_, rfl⟩
    by_cases hlt : k < n
    · obtain ⟨s, u, q, hx, hq, hst⟩ := hW.at_ (i := k) (by rw [hcl.out, ← hn.out]; exact hlt)
      obtain ⟨b0, off, pr, e0, hb0, hpr, o0, o1⟩ := (Owns.row (k := 2) (fun x => oneE.len x) hW.own).one (i := k) hlt
      obtain ⟨g', c', e1, hfk⟩ := hW.rowForm (by rw [hcl.out, ← hn.out]; omega)
      simp only [Value.slice.injEq, Option.some.injEq, Addr.mk.injEq, and_true, true_and] at e0 e1
      obtain ⟨rfl, rfl⟩ := e0
      obtain ⟨rfl, e2, rfl⟩ := e1
      clear e2
      obtain rfl : pr = (q, u) := by rw [hq] at hpr; exact (Option.some.inj hpr).symm
      have hxm : m.stores[k]? = some (s, u) := by
        rw [clearTo_at] at hx
        cases hm : m.stores[k]? with
        | none => rw [hm] at hx; simp at hx
        | some p =>
          obtain ⟨p1, p2⟩ := p
          rw [hm] at hx
          simpa using hx
      obtain ⟨y0, _, _, _⟩ := hW.box.cells
      have hS := store_Sound q (f k) N s wp hst
      have hf1 := hfk (k * 2 + 1)
      have hu := Lib.hid fun v => hW.mark hx hq v
      replace hW := Lib.hid hW
      replace hpr := Lib.hid hpr
      replace hq := Lib.hid hq
      replace hx := Lib.hid hx
      replace hxm := Lib.hid hxm
      clear hst hfk hb0
      simp only [Nat.zero_add] at o0 o1
      cases hs : s.sound with
      | false =>
        have hW2 : Hid (WldIn wp b (.slice (some ⟨g, 0, none⟩) n c) l' f N (m.clearTo (k + 1))) := by unfold Hid; rw [← clearTo_no hxm.out hs]; exact hW.out
        rw [hs] at hS
        replace hs := Lib.hid hs
        go_wp2_with fail
        refine hS.mono ?_
        rintro e w1 ⟨rfl, rfl⟩
        go_wp2_with fail
        go_roundw
        case rel => exact ⟨k + 1, l', by omega, by go_num, hW2.out, hbr⟩
        case measure => simp [intOf]; omega
      | true =>
        have hW2 : Hid (WldIn (wp.setCell ⟨g, k * 2 + 1, none⟩ (.bool false)) b (.slice (some ⟨g, 0, none⟩) n c) (l'.set k (q, false)) f N (m.clearTo (k + 1))) := by unfold Hid; rw [← clearTo_yes hxm.out hs]; exact hu.out false
        rw [hs] at hS
        replace hs := Lib.hid hs
        go_wp2_with fail
        refine hS.mono ?_
        rintro e w1 ⟨rfl, rfl⟩
        go_wp2_with fail
        go_roundw
        case rel => exact ⟨k + 1, _, by omega, by go_num, hW2.out, hbr.trans (But.of_set (F := [g]) _ (by simp)) (by simp)⟩
        case measure => simp [intOf]; omega
    · obtain rfl : k = n := by omega
      replace hW := Lib.hid hW
      go_wp2_with fail
      go_end0
      refine ⟨rfl, _, ⟨_, l', f, rfl, by rw [← clearTo_all, ← hn.out]; exact hW.out⟩, hbr.more (by intro x hx; simp at hx; subst hx; exact hgX.out), fun x hx => .inl ?_⟩
      rw [hn.out] at hx
      simpa [Wld.clear] using hx
end Go.Proofs.Ytfkonpmnclknaaa
