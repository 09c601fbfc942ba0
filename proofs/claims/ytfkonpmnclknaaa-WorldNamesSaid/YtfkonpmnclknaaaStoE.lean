/-
  Put.
-/
import Derived.Test.YtfkonpmnclknaaaStoD
import Derived.Test.YtfkonpmnclknaaaHeld
import Derived.Test.YtfkonpmnclknaaaTail
import Derived.Deep.DeepCutAuto
namespace Go.Proofs.Ytfkonpmnclknaaa
open Go.RowKit Go.Maps
attribute [local go_sem ↓] Go.wp_at_zero Go.wp_at_succ

theorem StoTo.trans {b N M : Nat} {F : List Nat} {s1 s2 : Sto} {w w1 w2 : World} (h : StoTo b F N s1 w w1) (k : ∀ F1, StoAt w1 b F1 N s1 → StoTo b F1 M s2 w1 w2) : StoTo b F M s2 w w2 := by
  obtain ⟨F1, h1, h2, h3⟩ := h
  obtain ⟨F2, k1, k2, k3⟩ := k F1 h1
  refine ⟨F2, k1, h2.trans k2 h3, fun i hi => ?_⟩
  rcases k3 i hi with e | e
  · exact h3 i e
  · exact .inr (Nat.le_trans h2.size e)
theorem StoTo.same {b N : Nat} {F : List Nat} {s : Sto} {w w' : World} (h : StoAt w b F N s) (hb : Below w.heap.size w w') : StoTo b F N s w w' := ⟨F, h.below hb, But.of_below hb, fun _ hi => .inl hi⟩
theorem StoTo.ahead {b N : Nat} {F : List Nat} {s : Sto} {w w0 w' : World} (hb : Below w.heap.size w w0) (h : StoTo b F N s w0 w') : StoTo b F N s w w' := by
  obtain ⟨F1, h1, h2, h3⟩ := h
  exact ⟨F1, h1, (But.of_below hb).trans h2 fun i hi => .inl hi, fun i hi => (h3 i hi).imp id fun e => Nat.le_trans hb.size e⟩
theorem StoTo.more {b N M : Nat} {F : List Nat} {s : Sto} {w w' : World} (h : StoTo b F N s w w') (hM : N ≤ M) (hc : M ≤ 1000000) : StoTo b F M s w w' := by
  obtain ⟨F1, h1, h2⟩ := h
  exact ⟨F1, h1.more hM hc, h2⟩

theorem StoIn.drew {w : World} {b gm sm N : Nat} {V : Value} {s : Sto} (h : StoIn w b gm sm V N s) : StoIn w.drew b gm sm V N s := h.block fun _ _ => rfl
theorem StoIn.alloc {w : World} {b gm sm N : Nat} {V : Value} {s : Sto} (h : StoIn w b gm sm V N s) (o : Obj) : StoIn (w.alloc o) b gm sm V N s := h.block fun i hi => Go.Deep.blk_alloc_lt _ _ _ (h.lt i hi)
/-- The map of what is seen is another one. -/
theorem StoIn.seenTo {w w3 : World} {b gm sm N M : Nat} {V : Value} {s : Sto} {l : List Ob} (h : StoIn w b gm sm V N s) (hm : MapAt w3 sm M l) (hg : w.grownBy w3 (some sm)) (ok : ∀ p ∈ l, OkO p) (hM : N ≤ M) (hc : M ≤ 1000000) : StoIn w3 b gm sm V M { s with seen := l } := by
  obtain ⟨a1, a2, a3, a4, a5, a6⟩ := own_at h.ap
  exact { h with
    box := h.box.grown hg (fun e => a2 (Option.some.inj e).symm)
    good := (h.good.kept hg (fun e => a3 (Option.some.inj e))).more hM (by omega)
    seen := hm
    own := h.own.blockS fun i e => hg.block i (h.own.within e).2 (fun e' => a6 (e.trans e'))
    ns := ok
    len := Nat.le_trans h.len hM
    cap := hc }
theorem StoIn.goodTo {w w3 : World} {b gm sm N M : Nat} {V : Value} {s : Sto} {l : List Ob} (h : StoIn w b gm sm V N s) (hm : MapAt w3 gm M l) (hg : w.grownBy w3 (some gm)) (ok : ∀ p ∈ l, OkO p) (hM : N ≤ M) (hc : M ≤ 1000000) (hl : l.length + s.writes.length ≤ M) : StoIn w3 b gm sm V M { s with good := l } := by
  obtain ⟨a1, a2, a3, a4, a5, a6⟩ := own_at h.ap
  exact { h with
    box := h.box.grown hg (fun e => a1 (Option.some.inj e).symm)
    good := hm
    seen := (h.seen.kept hg (fun e => a3 (Option.some.inj e).symm)).more hM (by omega)
    own := h.own.blockS fun i e => hg.block i (h.own.within e).2 (fun e' => a5 (e.trans e'))
    ng := ok
    len := hl
    cap := hc }
/-- One more write. -/
theorem StoIn.wrote {w w4 : World} {b gm sm N : Nat} {V v' : Value} {s : Sto} {x : Wr} (h : StoIn w b gm sm V N s) (ho : writeE.Own w4 0 v' (s.writes ++ [x])) (hg : w.grownBy w4 V.ownBlock) (hat : v'.ownBlock = V.ownBlock ∨ v'.ownBlock = some w.heap.size)
    (hx : OkO (x.name, x.data)) (hl : s.good.length + s.writes.length + 1 ≤ N) : StoIn (w4.setCell ⟨b, 1, none⟩ v') b gm sm v' N { s with writes := s.writes ++ [x] } := by
  obtain ⟨a1, a2, a3, a4, a5, a6⟩ := own_at h.ap
  have hb : ∀ {i : Nat}, i < w.heap.size → V.ownBlock ≠ some i → v'.ownBlock ≠ some i := fun {i} hi hv e => by
    rcases hat with e' | e'
    · exact hv (e'.symm.trans e)
    · have := Option.some.inj (e'.symm.trans e)
      omega
  have b4 := hb h.box.lt a4
  exact { h with
    box := (h.box.grown hg a4).set1 v'
    good := (h.good.kept hg (fun e => a5 e.symm)).setOther (fun e => a1 e.symm) v'
    seen := (h.seen.kept hg (fun e => a6 e.symm)).setOther (fun e => a2 e.symm) v'
    own := ho.blockS fun i e => Go.Deep.blk_setCell_other _ _ _ _ (fun e' => b4 (by rw [e, e']))
    ap := nodup_own a1 a2 a3 b4 (hb h.good.lt a5) (hb h.seen.lt a6)
    nw := fun y hy => by
      rcases List.mem_append.1 hy with hy | hy
      · exact h.nw y hy
      · rw [List.mem_singleton.1 hy]; exact hx
    len := by simp; omega }
theorem But.wrote {w w4 : World} {b : Nat} {V v' : Value} (hg : w.grownBy w4 V.ownBlock) : But (b :: V.ownBlock.toList) w (w4.setCell ⟨b, 1, none⟩ v') :=
  (But.of_grown hg fun g e => by simp [e]).trans (But.of_set (F := [b]) v' (by simp)) (by simp)
theorem own_new {w : World} {V v' : Value} (hat : v'.ownBlock = V.ownBlock ∨ v'.ownBlock = some w.heap.size) {b gm sm : Nat} : ∀ i ∈ b :: gm :: sm :: v'.ownBlock.toList, i ∈ b :: gm :: sm :: V.ownBlock.toList ∨ w.heap.size ≤ i := fun i hi => by
  rcases hat with e | e
  · rw [← e]; exact .inl hi
  · simp only [e, List.mem_cons, Option.toList] at hi
    rcases hi with rfl | rfl | rfl | hi
    · exact .inl (by simp)
    · exact .inl (by simp)
    · exact .inl (by simp)
    · rcases hi with rfl | hi
      · exact .inr (Nat.le_refl _)
      · simp at hi

def Sto.full (s : Sto) (o : Ob) : Bool := decide (0 ≤ s.room) && !bareB o.1 && decide (s.room < (usedO (putO s.seen o) : Nat))
def badO (o : Ob) : Bool := decide (o.1.size = 0) || decide (80 < o.1.size) || decide (65536 < o.2.size)
def Sto.put (s : Sto) (o : Ob) : Sto × Int :=
  if badO o = true then (s, 1) else if s.down = true then (s, 51) else if s.full o = true then (s, 52)
  else if s.refNow = true then (s.tried, 53) else ({ s.tried with seen := putO s.seen o, writes := s.writes ++ [⟨o.1, o.2, false⟩] }, 0)

theorem str_len (a : ByteArray) : a.toList.length = a.size := by rw [toList_bl]; exact Array.length_toList
theorem str_empty {a : ByteArray} (h : a.size = 0) : (a.toList == []) = true := by
  have := str_len a
  rw [h] at this
  rw [List.eq_nil_of_length_eq_zero this]
  rfl
theorem str_some {a : ByteArray} (h : a.size ≠ 0) : (a.toList == []) = false := by
  have := str_len a
  cases hl : a.toList with
  | nil => rw [hl] at this; exact absurd this.symm h
  | cons _ _ => rfl

set_option maxHeartbeats 4000000 in
set_option maxRecDepth 100000 in
theorem store_Put (b : Nat) (F : List Nat) (N : Nat) (s : Sto) (o : Ob) (hn : o.1.size ≤ maxLen) (hd : o.2.size ≤ maxLen) (hN : N + 1 ≤ 1000000) (w : World) (h : StoAt w b F N s) :
    Calls Try.prog 15 #[.pointer (some ⟨b, 0, none⟩), .agg #[.string o.1, .string o.2]] w fun e w' => e = .returned (.int .i64 (s.put o).2) ∧ StoTo b F (N + 1) (s.put o).1 w w' := by
  obtain ⟨n, d⟩ := o
  dsimp only at hn hd ⊢
  have hb0 : Below w.heap.size w (w.alloc (.cells #[.string n, .string d] 30)) := (Below.refl _ w).alloc (Nat.le_refl _) _
  have hsame : Hid (StoTo b F (N + 1) s w (w.alloc (.cells #[.string n, .string d] 30))) := (StoTo.same h hb0).more (Nat.le_succ _) hN
  by_cases k0 : n.size = 0
  · have hr : Hid (s.put (n, d) = (s, 1)) := by unfold Hid Sto.put badO; simp [k0]
    have e0 := str_empty k0
    replace k0 := Lib.hid k0
    clear h hb0
    go_enter Try.func15, Try.ntmps15
    go_wp2_with fail
    go_ret
    exact ⟨by rw [hr.out]; rfl, by rw [hr.out]; exact hsame.out⟩
  have e0 := str_some k0
  by_cases k1 : 80 < n.size
  · have hr : Hid (s.put (n, d) = (s, 1)) := by unfold Hid Sto.put badO; simp [k1]
    have i1 : (80 : Int) < (n.size : Int) := by omega
    replace k0 := Lib.hid k0
    replace k1 := Lib.hid k1
    clear h hb0
    go_enter Try.func15, Try.ntmps15
    go_wp2_with fail
    go_ret
    exact ⟨by rw [hr.out]; rfl, by rw [hr.out]; exact hsame.out⟩
  have i1 : ¬ (80 : Int) < (n.size : Int) := by omega
  by_cases k2 : 65536 < d.size
  · have hr : Hid (s.put (n, d) = (s, 1)) := by unfold Hid Sto.put badO; simp [k2]
    have i2 : (65536 : Int) < (d.size : Int) := by omega
    replace k0 := Lib.hid k0
    replace k1 := Lib.hid k1
    replace k2 := Lib.hid k2
    clear h hb0
    go_enter Try.func15, Try.ntmps15
    go_wp2_with fail
    go_ret
    exact ⟨by rw [hr.out]; rfl, by rw [hr.out]; exact hsame.out⟩
  have i2 : ¬ (65536 : Int) < (d.size : Int) := by omega
  have hbad : badO (n, d) = false := by simp [badO, k0, k1, k2]
  replace k0 := Lib.hid k0
  replace k1 := Lib.hid k1
  replace k2 := Lib.hid k2
  obtain ⟨gm, sm, V, rfl, h⟩ := h
  cases hdn : s.down
  case true =>
    have hr : Hid (s.put (n, d) = (s, 51)) := by unfold Hid Sto.put; rw [hbad, hdn]; rfl
    obtain ⟨c0, c1, c2, c3, c4, c5⟩ := h.box.cells
    have hlt := h.box.lt
    rw [hdn] at c3
    clear hb0 h
    replace hdn := Lib.hid hdn
    replace hbad := Lib.hid hbad
    go_enter Try.func15, Try.ntmps15
    go_wp2_with fail
    go_ret
    exact ⟨by rw [hr.out]; rfl, by rw [hr.out]; exact hsame.out⟩
  have hlt := h.box.lt
  have hls := h.seen.lt
  have hob := SB.alloc h.box (.cells #[.string n, .string d] 30)
  have h0 := h.block fun i hi => hb0.block i (h.lt i hi)
  have x0 : (w.alloc (.cells #[.string n, .string d] 30)).cell? ⟨w.heap.size, 0, none⟩ = some (.string n) := newCell _ _ _ _ _
  have x1 : (w.alloc (.cells #[.string n, .string d] 30)).cell? ⟨w.heap.size, 1, none⟩ = some (.string d) := newCell _ _ _ _ _
  have hz0 : (w.alloc (.cells #[.string n, .string d] 30)).heap.size = w.heap.size + 1 := by simp
  have hU := Lib.hid (fun W (hW : StoIn W b gm sm V N s) => store_used b gm sm N V s W hW)
  have hB := Lib.hid (store_bare n)
  have hF := Lib.hid (fun W (hW : StoIn W b gm sm V N s) => store_refused b gm sm N V s W hW)
  replace hbad := Lib.hid hbad
  obtain ⟨c0, c1, c2, c3, c4, c5⟩ := h0.box.cells
  rw [hdn] at c3
  replace hdn := Lib.hid hdn
  clear hob
  go_enter Try.func15, Try.ntmps15
  go_upto_region 7 with fail
  generalize (w.alloc (.cells #[.string n, .string d] 30)) = w0 at hb0 hsame h0 x0 x1 hz0 c0 c1 c2 c3 c4 c5 ⊢
  go_cut [29] (fun v wc => v = .bool (s.full (n, d)) ∧ Below w0.heap.size w0 wc)
  case first =>
    by_cases hr0 : 0 ≤ s.room
    · cases hbr : bareB n
      · obtain ⟨u, hu⟩ : ∃ x, x = usedO s.seen := ⟨_, rfl⟩
        obtain ⟨lk, hlk⟩ : ∃ x, x = (lookO s.seen n).getD ⟨#[]⟩ := ⟨_, rfl⟩
        have hu9 : u ≤ 65536000000 := by rw [hu]; exact used_cap h0.seen h0.cap h0.ns
        have hl9 : lk.size ≤ 65536 := by
          rw [hlk]
          cases hx : lookO s.seen n with
          | none => decide
          | some y => exact (h0.ns _ (lookO_mem hx)).2
        have hd9 : d.size ≤ 65536 := by have := k2.out; omega
        have hput := usedO_put h0.seen.rise (n, d) hbr
        dsimp only at hput
        rw [← hu, ← hlk] at hput
        have hU2 := Lib.hid (fun (x : Ext w0.heap.size w0) => by have := hU.out x.world (h0.block fun i hi => x.below.block i (h0.lt i hi)); rw [← hu] at this; exact this)
        have hB2 := Lib.hid (fun (x : Ext w0.heap.size w0) => by have := hB.out x.world; rw [hbr] at this; exact this)
        have hL : ∀ x : Ext w0.heap.size w0, (Instr.lookup 66 (.map (some sm)) (.string n) false).run Try.prog x.world = .ok (.string lk) x.world := fun x => by
          have := (h0.seen.below (by omega) x.below).look n hn 0
          rw [← hlk] at this
          exact this
        replace hbr := Lib.hid hbr
        replace hu := Lib.hid hu
        replace hlk := Lib.hid hlk
        cases hq : decide (s.room < (u : Int) - lk.size + d.size)
        · have hfl : Hid (s.full (n, d) = false) := by unfold Hid Sto.full; rw [hput, hq]; simp
          have hq' : ¬ s.room < (u : Int) - lk.size + d.size := of_decide_eq_false hq
          clear hq hput
          (refine wp_region_ext (w0.heap.size) (by kernel_rfl) (by kernel_rfl) ?_
           repeat (go_big_quiet_step ((first
                      | (go_at_call 64; with_reducible refine Calls.ext (Nat.le_refl _) ((hB2.out _).mono (fun e w' hw => ⟨hw.1, by rw [hw.2]; exact Below.refl _ _⟩)))
                      | (go_at_call 65; with_reducible refine Calls.ext (Nat.le_refl _) (hU2.out _)))))
           refine wpQuiet_nil ?_
           intro w9 hw'
           have hbw9 := Ext.of hw'
           clear hw'
           obtain ⟨hcw9, hfw9⟩ := bcell hbw9; (try simp only [World.size_drew, World.cell?_drew, World.frozen?_drew, World.heap_drewN, World.cell?_drewN, World.frozen?_drewN] at hcw9 hfw9); have hzw9 := hbw9.size; (try simp at hzw9); (try have hlw9 := (by omega : w.heap.size < w9.heap.size)); (try have hmw9 := (by omega : w.heap.size + 1 < w9.heap.size)); (try have hnw9 := (by omega : w.heap.size + 1 + 1 < w9.heap.size)))
          go_wp2_with fail
          go_meet
          exact ⟨by rw [hfl.out], hbw9⟩
        · have hfl : Hid (s.full (n, d) = true) := by unfold Hid Sto.full; rw [hput, hq]; simp [hr0, hbr.out]
          have hq' : s.room < (u : Int) - lk.size + d.size := of_decide_eq_true hq
          clear hq hput
          (refine wp_region_ext (w0.heap.size) (by kernel_rfl) (by kernel_rfl) ?_
           repeat (go_big_quiet_step ((first
                      | (go_at_call 64; with_reducible refine Calls.ext (Nat.le_refl _) ((hB2.out _).mono (fun e w' hw => ⟨hw.1, by rw [hw.2]; exact Below.refl _ _⟩)))
                      | (go_at_call 65; with_reducible refine Calls.ext (Nat.le_refl _) (hU2.out _)))))
           refine wpQuiet_nil ?_
           intro w9 hw'
           have hbw9 := Ext.of hw'
           clear hw'
           obtain ⟨hcw9, hfw9⟩ := bcell hbw9; (try simp only [World.size_drew, World.cell?_drew, World.frozen?_drew, World.heap_drewN, World.cell?_drewN, World.frozen?_drewN] at hcw9 hfw9); have hzw9 := hbw9.size; (try simp at hzw9); (try have hlw9 := (by omega : w.heap.size < w9.heap.size)); (try have hmw9 := (by omega : w.heap.size + 1 < w9.heap.size)); (try have hnw9 := (by omega : w.heap.size + 1 + 1 < w9.heap.size)))
          go_wp2_with fail
          go_meet
          exact ⟨by rw [hfl.out], hbw9⟩
      · have hfl : Hid (s.full (n, d) = false) := by unfold Hid; simp [Sto.full, hbr]
        have hB2 := Lib.hid (fun (x : Ext w0.heap.size w0) => by have := hB.out x.world; rw [hbr] at this; exact this)
        replace hbr := Lib.hid hbr
        (refine wp_region_ext (w0.heap.size) (by kernel_rfl) (by kernel_rfl) ?_
         repeat (go_big_quiet_step ((first
                  | (go_at_call 64; with_reducible refine Calls.ext (Nat.le_refl _) ((hB2.out _).mono (fun e w' hw => ⟨hw.1, by rw [hw.2]; exact Below.refl _ _⟩)))
                  | fail)))
         refine wpQuiet_nil ?_
         intro w9 hw'
         have hbw9 := Ext.of hw'
         clear hw'
         obtain ⟨hcw9, hfw9⟩ := bcell hbw9; (try simp only [World.size_drew, World.cell?_drew, World.frozen?_drew, World.heap_drewN, World.cell?_drewN, World.frozen?_drewN] at hcw9 hfw9); have hzw9 := hbw9.size; (try simp at hzw9); (try have hlw9 := (by omega : w.heap.size < w9.heap.size)); (try have hmw9 := (by omega : w.heap.size + 1 < w9.heap.size)); (try have hnw9 := (by omega : w.heap.size + 1 + 1 < w9.heap.size)))
        go_wp2_with fail
        go_meet
        exact ⟨by rw [hfl.out], hbw9⟩
    · have hfl : Hid (s.full (n, d) = false) := by unfold Hid; simp [Sto.full, hr0]
      (refine wp_region_ext (w0.heap.size) (by kernel_rfl) (by kernel_rfl) ?_
       repeat (go_big_quiet_step (fail))
       refine wpQuiet_nil ?_
       intro w9 hw'
       have hbw9 := Ext.of hw'
       clear hw'
       obtain ⟨hcw9, hfw9⟩ := bcell hbw9; (try simp only [World.size_drew, World.cell?_drew, World.frozen?_drew, World.heap_drewN, World.cell?_drewN, World.frozen?_drewN] at hcw9 hfw9); have hzw9 := hbw9.size; (try simp at hzw9); (try have hlw9 := (by omega : w.heap.size < w9.heap.size)); (try have hmw9 := (by omega : w.heap.size + 1 < w9.heap.size)); (try have hnw9 := (by omega : w.heap.size + 1 + 1 < w9.heap.size)))
      go_wp2_with fail
      go_meet
      exact ⟨by rw [hfl.out], hbw9⟩
  case rest =>
    obtain ⟨wq, rfl⟩ : ∃ x : World, x = wc := ⟨_, rfl⟩
    obtain ⟨rfl, hbq⟩ := hcut
    have h1 := h0.block fun i hi => hbq.block i (h0.lt i hi)
    have y0 := (hbq.cell (p := ⟨w.heap.size, 0, none⟩) (by simp; omega)).trans x0
    have y1 := (hbq.cell (p := ⟨w.heap.size, 1, none⟩) (by simp; omega)).trans x1
    have hbw : Below w.heap.size w wq := hb0.trans (hbq.mono (by omega))
    clear c0 c1 c2 c3 c4 c5 x0 x1
    cases hfl : s.full (n, d)
    · go_wp2_with fail
      refine (hF.out wq h1).mono ?_
      rintro e w2 ⟨rfl, h2, hbt⟩
      have hz2 := hbt.size
      have z0 := (World.cell?_of_block (a := ⟨w.heap.size, 0, none⟩) (hbt.block w.heap.size (by have := hbq.size; omega) (by simp; omega))).trans y0
      have z1 := (World.cell?_of_block (a := ⟨w.heap.size, 1, none⟩) (hbt.block w.heap.size (by have := hbq.size; omega) (by simp; omega))).trans y1
      have hbb : But (b :: gm :: sm :: V.ownBlock.toList) w w2 := (But.of_below hbw).trans hbt (by simp)
      cases hrn : s.refNow
      · have hr : Hid (s.put (n, d) = ({ s.tried with seen := putO s.seen (n, d), writes := s.writes ++ [⟨n, d, false⟩] }, 0)) := by unfold Hid Sto.put; rw [hbad.out, hdn.out, hfl, hrn]; rfl
        go_upto_region 11 with fail
        have h2g : s.tried.good = s.good := tried_good s
        have h2s : s.tried.seen = s.seen := tried_seen s
        have h2w : s.tried.writes = s.writes := tried_writes s
        have ms := h2.drew.seen
        rw [h2s] at ms
        obtain ⟨_, _, d2, _, _, _⟩ := h2.box.cells
        refine region_held_tail 8 (fun W : World => W.cell? ⟨b, 2, none⟩ = some (.map (some sm)) ∧ W.cell? ⟨w.heap.size, 0, none⟩ = some (.string n) ∧ W.cell? ⟨w.heap.size, 1, none⟩ = some (.string d)) (by kernel_rfl) (by kernel_rfl) ?_
        have hHeld : (fun W : World => W.cell? ⟨b, 2, none⟩ = some (.map (some sm)) ∧ W.cell? ⟨w.heap.size, 0, none⟩ = some (.string n) ∧ W.cell? ⟨w.heap.size, 1, none⟩ = some (.string d)) w2.drew := ⟨d2, z0, z1⟩
        (refine HT.takeL (i := 0) (v := ?_) rfl (by kernel_rfl) (fun _ _ _ h => h) (Or.inl ⟨by rfl, ?_⟩) (by assumption) ?_
         rotate_left
         · (intro w hSw; (try dsimp only at hSw); go_simp; (try with_reducible rfl))
         try simp only [Act.put, List.setIfInBounds_toArray, List.set_cons_zero, List.set_cons_succ])
        (refine HT.takeL (i := 1) (v := ?_) rfl (by kernel_rfl) (fun _ _ _ h => h) (Or.inl ⟨by rfl, ?_⟩) (by assumption) ?_
         rotate_left
         · (intro w hSw; (try dsimp only at hSw); go_simp; (try with_reducible rfl))
         try simp only [Act.put, List.setIfInBounds_toArray, List.set_cons_zero, List.set_cons_succ])
        (refine HT.takeL (i := 2) (v := ?_) rfl (by kernel_rfl) (fun _ _ _ h => h) (Or.inl ⟨by rfl, ?_⟩) (by assumption) ?_
         rotate_left
         · (intro w hSw; (try dsimp only at hSw); go_simp; (try with_reducible rfl))
         try simp only [Act.put, List.setIfInBounds_toArray, List.set_cons_zero, List.set_cons_succ])
        (refine HT.takeL (i := 3) (v := ?_) rfl (by kernel_rfl) (fun _ _ _ h => h) (Or.inl ⟨by rfl, ?_⟩) (by assumption) ?_
         rotate_left
         · (intro w hSw; (try dsimp only at hSw); go_simp; (try with_reducible rfl))
         try simp only [Act.put, List.setIfInBounds_toArray, List.set_cons_zero, List.set_cons_succ])
        (refine HT.takeL (i := 4) (v := ?_) rfl (by kernel_rfl) (fun _ _ _ h => h) (Or.inl ⟨by rfl, ?_⟩) (by assumption) ?_
         rotate_left
         · (intro w hSw; (try dsimp only at hSw); go_simp; (try with_reducible rfl))
         try simp only [Act.put, List.setIfInBounds_toArray, List.set_cons_zero, List.set_cons_succ])
        (refine HT.takeL (i := 5) (v := ?_) rfl (by kernel_rfl) (fun _ _ _ h => h) (Or.inl ⟨by rfl, ?_⟩) (by assumption) ?_
         rotate_left
         · (intro w hSw; (try dsimp only at hSw); go_simp; (try with_reducible rfl))
         try simp only [Act.put, List.setIfInBounds_toArray, List.set_cons_zero, List.set_cons_succ])
        (refine HT.takeL (i := 6) (v := ?_) rfl (by kernel_rfl) (fun _ _ _ h => h) (Or.inl ⟨by rfl, ?_⟩) (by assumption) ?_
         rotate_left
         · (intro w hSw; (try dsimp only at hSw); go_simp; (try with_reducible rfl))
         try simp only [Act.put, List.setIfInBounds_toArray, List.set_cons_zero, List.set_cons_succ])
        (refine HT.takeL (i := 7) (v := ?_) rfl (by kernel_rfl) (fun _ _ _ h => h) (Or.inl ⟨by rfl, ?_⟩) (by assumption) ?_
         rotate_left
         · (intro w hSw; (try dsimp only at hSw); go_simp; (try with_reducible rfl))
         try simp only [Act.put, List.setIfInBounds_toArray, List.set_cons_zero, List.set_cons_succ])
        refine HT.tail (by kernel_rfl) ?_
        simp only [List.drop_succ_cons, List.drop_zero]
        clear hHeld
        have h2d := Lib.hid h2.drew
        go_wp2_with (at_mapUpdate; go_must (refine wpList_obs_put _ rfl _ _ _ rfl sm N s.seen rfl ms (by omega) n d rfl rfl hn hd ?_); intro w3 hm3 hg3)
        go_upto_region 12 with fail
        have ok : ∀ p ∈ putO s.seen (n, d), OkO p := fun p hp => by
          rcases putO_mem.1 hp with rfl | ⟨hp, _⟩
          · exact ⟨by have := k1.out; simp; omega, by have := k2.out; simp; omega⟩
          · exact h.ns p hp
        have h3 := h2d.out.seenTo hm3 hg3 ok (Nat.le_succ _) hN
        have hz3 : w.heap.size < w3.heap.size := by have := hg3.size; have := hbq.size; simp at *; omega
        have t0 := (World.cell?_of_block (a := ⟨w.heap.size, 0, none⟩) (hg3.block w.heap.size (by have := hbq.size; simp; omega) (by simp; omega))).trans z0
        have t1 := (World.cell?_of_block (a := ⟨w.heap.size, 1, none⟩) (hg3.block w.heap.size (by have := hbq.size; simp; omega) (by simp; omega))).trans z1
        obtain ⟨_, v1, _, _, _, _⟩ := h3.box.cells
        have nb := (own_at h.ap).2.2.2.1
        have no : V.ownBlock ≠ some w.heap.size := fun e => by have := (h.own.within e).2; omega
        have hS : ∀ (W W' : World), w.heap.size < W.heap.size → W.grownBy W' V.ownBlock → (W.cell? ⟨b, 1, none⟩ = some V ∧ W.cell? ⟨w.heap.size, 0, none⟩ = some (.string n) ∧ W.cell? ⟨w.heap.size, 1, none⟩ = some (.string d)) → W'.cell? ⟨b, 1, none⟩ = some V ∧ W'.cell? ⟨w.heap.size, 0, none⟩ = some (.string n) ∧ W'.cell? ⟨w.heap.size, 1, none⟩ = some (.string d) := fun W W' hz hg ⟨s1, s2, s3⟩ =>
          ⟨(World.cell?_of_block (a := ⟨b, 1, none⟩) (hg.block b (by omega) (fun e => nb e.symm))).trans s1, (World.cell?_of_block (a := ⟨w.heap.size, 0, none⟩) (hg.block w.heap.size hz (fun e => no e.symm))).trans s2, (World.cell?_of_block (a := ⟨w.heap.size, 1, none⟩) (hg.block w.heap.size hz (fun e => no e.symm))).trans s3⟩
        have hA : (w3.drew.alloc (.cells #[.string n, .string d, .bool false] 83)).cell? ⟨b, 1, none⟩ = some V ∧ (w3.drew.alloc (.cells #[.string n, .string d, .bool false] 83)).cell? ⟨w.heap.size, 0, none⟩ = some (.string n) ∧ (w3.drew.alloc (.cells #[.string n, .string d, .bool false] 83)).cell? ⟨w.heap.size, 1, none⟩ = some (.string d) :=
          ⟨(World.cell?_alloc_lt _ _ _ (by simp; omega)).trans v1, (World.cell?_alloc_lt _ _ _ (by simp; omega)).trans t0, (World.cell?_alloc_lt _ _ _ (by simp; omega)).trans t1⟩
        have h3a := h3.drew.alloc (.cells #[.string n, .string d, .bool false] 83)
        have ho3 := h3a.own
        simp only [h2w] at ho3
        have hlw : s.writes.length ≤ 1000000000 := by have := h.len; omega
        refine region_held_tail 9 (fun W : World => W.cell? ⟨b, 1, none⟩ = some V ∧ W.cell? ⟨w.heap.size, 0, none⟩ = some (.string n) ∧ W.cell? ⟨w.heap.size, 1, none⟩ = some (.string d)) (by kernel_rfl) (by kernel_rfl) ?_
        have hHeld : (fun W : World => W.cell? ⟨b, 1, none⟩ = some V ∧ W.cell? ⟨w.heap.size, 0, none⟩ = some (.string n) ∧ W.cell? ⟨w.heap.size, 1, none⟩ = some (.string d)) w3.drew := ⟨v1, t0, t1⟩
        (refine HT.takeL (i := 0) (v := ?_) rfl (by kernel_rfl) (fun _ _ _ h => h) (Or.inl ⟨by rfl, ?_⟩) (by assumption) ?_
         rotate_left
         · (intro w hSw; (try dsimp only at hSw); go_simp; (try with_reducible rfl))
         try simp only [Act.put, List.setIfInBounds_toArray, List.set_cons_zero, List.set_cons_succ])
        (refine HT.takeL (i := 1) (v := ?_) rfl (by kernel_rfl) (fun _ _ _ h => h) (Or.inl ⟨by rfl, ?_⟩) (by assumption) ?_
         rotate_left
         · (intro w hSw; (try dsimp only at hSw); go_simp; (try with_reducible rfl))
         try simp only [Act.put, List.setIfInBounds_toArray, List.set_cons_zero, List.set_cons_succ])
        (refine HT.takeL (i := 2) (v := ?_) rfl (by kernel_rfl) (fun _ _ _ h => h) (Or.inl ⟨by rfl, ?_⟩) (by assumption) ?_
         rotate_left
         · (intro w hSw; (try dsimp only at hSw); go_simp; (try with_reducible rfl))
         try simp only [Act.put, List.setIfInBounds_toArray, List.set_cons_zero, List.set_cons_succ])
        (refine HT.takeL (i := 3) (v := ?_) rfl (by kernel_rfl) (fun _ _ _ h => h) (Or.inl ⟨by rfl, ?_⟩) (by assumption) ?_
         rotate_left
         · (intro w hSw; (try dsimp only at hSw); go_simp; (try with_reducible rfl))
         try simp only [Act.put, List.setIfInBounds_toArray, List.set_cons_zero, List.set_cons_succ])
        (refine HT.takeL (i := 4) (v := ?_) rfl (by kernel_rfl) (fun _ _ _ h => h) (Or.inl ⟨by rfl, ?_⟩) (by assumption) ?_
         rotate_left
         · (intro w hSw; (try dsimp only at hSw); go_simp; (try with_reducible rfl))
         try simp only [Act.put, List.setIfInBounds_toArray, List.set_cons_zero, List.set_cons_succ])
        (refine HT.takeL (i := 5) (v := ?_) rfl (by kernel_rfl) (fun _ _ _ h => h) (Or.inl ⟨by rfl, ?_⟩) (by assumption) ?_
         rotate_left
         · (intro w hSw; (try dsimp only at hSw); go_simp; (try with_reducible rfl))
         try simp only [Act.put, List.setIfInBounds_toArray, List.set_cons_zero, List.set_cons_succ])
        (refine HT.takeL (i := 6) (v := ?_) rfl (by kernel_rfl) (fun _ _ _ h => h) (Or.inl ⟨by rfl, ?_⟩) (by assumption) ?_
         rotate_left
         · (intro w hSw; (try dsimp only at hSw); go_simp; (try with_reducible rfl))
         try simp only [Act.put, List.setIfInBounds_toArray, List.set_cons_zero, List.set_cons_succ])
        (refine HT.onlyL (i := 7) rfl (by kernel_rfl) (fun K hK => ?_)
         go_simp
         refine hK.out _ _ ?_ (fun hHeld => ?_)
         · (exact hA)
         clear hK K
         try simp only [Act.put, List.setIfInBounds_toArray, List.set_cons_zero, List.set_cons_succ])
        (refine HT.onlyL (i := 8) rfl (by kernel_rfl) (fun K hK => ?_)
         ((apply Elem.step_one writeE (s := .tmp 78) (x := .tmp 81) (base := 0) (l := s.writes) (y := (⟨n, d, false⟩ : Wr)); (case' hgd => rfl); (case' ho => rfl); (case' hs => rfl); (case' hx => rfl); (case' hown => exact (ho3)); (case' hy => exact (fun j u hu => by rcases j with _ | _ | _ | j <;> simp [writeE, Wr.cells] at hu <;> subst hu <;> first | (go_simp; done) | exact newCell _ _ _ _ _)); (case' hl => exact hlw); (case' hbase => exact (by first | omega | (simp; try omega)))); intro v' w4 ho4 hg4 hat4)
         refine hK.out _ _ ?_ (fun hHeld => ?_)
         · (exact hS _ _ (by simp; omega) hg4 hA)
         clear hK K
         try simp only [Act.put, List.setIfInBounds_toArray, List.set_cons_zero, List.set_cons_succ])
        refine HT.tail (by kernel_rfl) ?_
        simp only [List.drop_succ_cons, List.drop_zero]
        obtain ⟨A9, m9, c9, rfl⟩ : ∃ A m c, v' = .slice A m c := by obtain ⟨A, c, e⟩ := Owns.form ho4; exact ⟨A, _, c, e⟩
        have hx4 := h3a.box.grown hg4 nb
        have f4 := hx4.frozen 1
        obtain ⟨_, g1, _, _, _, _⟩ := hx4.cells
        have hfin := h3a.wrote (x := ⟨n, d, false⟩) (by simp only [h2w]; exact ho4) hg4 hat4 ⟨by have := k1.out; simp; omega, by have := k2.out; simp; omega⟩ (by simp only [h2w, h2g]; have := h.len; omega)
        simp only [h2w] at hfin
        have hbut : But (b :: gm :: sm :: V.ownBlock.toList) w (w4.setCell ⟨b, 1, none⟩ (.slice A9 m9 c9)) := by
          have e1 : But (b :: gm :: sm :: V.ownBlock.toList) w w3.drew := (hbb.drew.trans (But.of_grown (F := [sm]) hg3 (by simp)) (by simp)).drew
          exact (e1.trans (But.of_below (F := []) ((Below.refl _ w3.drew).alloc (Nat.le_refl _) _)) (by simp)).trans (But.wrote hg4) (fun i hi => .inl (by simp at hi ⊢; rcases hi with hi | hi; exact .inl hi; exact .inr (.inr (.inr hi))))
        have hnew := own_new hat4 (b := b) (gm := gm) (sm := sm)
        have hsz : w.heap.size ≤ (w3.drew.alloc (.cells #[.string n, .string d, .bool false] 83)).heap.size := by simp; omega
        replace hfin := Lib.hid hfin
        replace hbut := Lib.hid hbut
        replace hnew := Lib.hid hnew
        replace hsz := Lib.hid hsz
        clear hHeld hA h3a ho3 hS
        go_wp2_with fail
        go_ret
        exact ⟨by rw [hr.out]; rfl, by rw [hr.out]; exact ⟨_, ⟨gm, sm, _, rfl, hfin.out⟩, hbut.out, fun i hi => (hnew.out i hi).imp id fun e => Nat.le_trans hsz.out e⟩⟩
      · have hr : Hid (s.put (n, d) = (s.tried, 53)) := by unfold Hid Sto.put; rw [hbad.out, hdn.out, hfl, hrn]; rfl
        go_wp2_with fail
        go_ret
        exact ⟨by rw [hr.out]; rfl, by rw [hr.out]; exact StoTo.more ⟨_, ⟨gm, sm, V, rfl, h2⟩, hbb, fun i hi => .inl hi⟩ (Nat.le_succ _) hN⟩
    · have hr : Hid (s.put (n, d) = (s, 52)) := by unfold Hid Sto.put; rw [hbad.out, hdn.out, hfl]; rfl
      go_wp2_with fail
      go_ret
      exact ⟨by rw [hr.out]; rfl, by rw [hr.out]; exact (StoTo.same ⟨gm, sm, V, rfl, h⟩ hbw).more (Nat.le_succ _) hN⟩
end Go.Proofs.Ytfkonpmnclknaaa
/-
  Del.
-/
namespace Go.Proofs.Ytfkonpmnclknaaa
open Go.RowKit Go.Maps
attribute [local go_sem ↓] Go.wp_at_zero Go.wp_at_succ

def Sto.del (s : Sto) (n : ByteArray) : Sto × Int :=
  if (s.get n).2 = 0 then (if s.refNow = true then (s.tried, 53) else ({ s.tried with seen := delO s.seen n, writes := s.writes ++ [⟨n, ⟨#[]⟩, true⟩] }, 0)) else (s, (s.get n).2)

theorem get_none {s : Sto} {n : ByteArray} : (s.get n).2 = 0 ∨ (s.get n).2 = 5 ∨ (s.get n).2 = 51 := by
  unfold Sto.get
  split
  · exact .inr (.inr rfl)
  · split
    · exact .inr (.inl rfl)
    · exact .inl rfl
theorem get_some {s : Sto} {n : ByteArray} (h : (s.get n).2 = 0) : s.down = false ∧ ∃ d, lookO s.seen n = some d := by
  unfold Sto.get at h
  split at h
  · simp at h
  · rename_i hd
    split at h
    · simp at h
    · rename_i d e
      exact ⟨by simpa using hd, d, e⟩

set_option maxHeartbeats 4000000 in
set_option maxRecDepth 100000 in
theorem store_Del (b : Nat) (F : List Nat) (N : Nat) (s : Sto) (n : ByteArray) (hn : n.size ≤ maxLen) (hN : N + 1 ≤ 1000000) (w : World) (h : StoAt w b F N s) :
    Calls Try.prog 48 #[.pointer (some ⟨b, 0, none⟩), .string n] w fun e w' => e = .returned (.int .i64 (s.del n).2) ∧ StoTo b F (N + 1) (s.del n).1 w w' := by
  have hG := store_Get b F N s n hn w h
  have hsame : Hid (StoTo b F (N + 1) s w w) := (StoTo.same h (Below.refl _ _)).more (Nat.le_succ _) hN
  obtain ⟨gm, sm, V, rfl, h⟩ := h
  have hF := store_refused b gm sm N V s w h
  by_cases hz : (s.get n).2 = 0
  · rw [hz] at hG
    obtain ⟨d, hd⟩ := (get_some hz).2
    have hok : OkO (n, ⟨#[]⟩) := ⟨(h.ns _ (lookO_mem hd)).1, Nat.zero_le _⟩
    cases hrn : s.refNow
    · have hr : Hid (s.del n = ({ s.tried with seen := delO s.seen n, writes := s.writes ++ [⟨n, ⟨#[]⟩, true⟩] }, 0)) := by unfold Hid Sto.del; rw [if_pos hz, hrn]; rfl
      rw [hrn] at hF
      replace hz := Lib.hid hz
      replace hrn := Lib.hid hrn
      replace hd := Lib.hid hd
      replace hok := Lib.hid hok
      go_enter Try.func48, Try.ntmps48
      go_wp2_with fail
      refine hG.mono ?_
      rintro e w1 ⟨rfl, rfl⟩
      go_wp2_with fail
      refine hF.mono ?_
      rintro e w2 ⟨rfl, h2, hbt⟩
      have h2g : s.tried.good = s.good := tried_good s
      have h2s : s.tried.seen = s.seen := tried_seen s
      have h2w : s.tried.writes = s.writes := tried_writes s
      obtain ⟨_, c1, c2, _, _, _⟩ := h2.box.cells
      have ms := h2.seen
      rw [h2s] at ms
      have hns := h.ns
      replace h2g := Lib.hid h2g
      replace h2s := Lib.hid h2s
      replace h2w := Lib.hid h2w
      replace h2 := Lib.hid h2
      replace h := Lib.hid h
      replace hns := Lib.hid hns
      go_upto_region 7 with (at_delete; go_must (refine wpList_obs_del _ rfl _ _ rfl sm N s.seen rfl ms n rfl hn ?_); intro w3 hm3 hg3)
      have ok : ∀ p ∈ delO s.seen n, OkO p := fun p hp => hns.out p (delO_mem.1 hp).1
      have h3 := h2.out.seenTo (hm3.more (Nat.le_succ _) (by omega)) hg3 ok (Nat.le_succ _) hN
      obtain ⟨_, v1, _, _, _, _⟩ := h3.box.cells
      have nb := (own_at h3.ap).2.2.2.1
      have h3a := h3.alloc (.cells #[.string n, .string ⟨#[]⟩, .bool true] 83)
      have ho3 := h3a.own
      simp only [h2w.out] at ho3
      have hlw : s.writes.length ≤ 1000000000 := by have := h.out.len; have := h.out.cap; omega
      clear c1 c2
      go_wp2_with (at_builtin; go_must (refine Elem.wpList_one writeE rfl (.tmp 27) (.tmp 31) rfl (0) _ (s.writes) rfl _ _ (⟨n, ⟨#[]⟩, true⟩ : Wr) rfl (ho3) (fun j u hu => by rcases j with _ | _ | _ | j <;> simp [writeE, Wr.cells] at hu <;> subst hu <;> go_simp) (by first | omega | (simp; omega)) (by first | omega | (simp; try omega)) ?_); intro v4 w4 hown4 hg4 hat4; obtain ⟨A9, m9, c9, rfl⟩ : ∃ A m c, v4 = .slice A m c := (by obtain ⟨A, c, e⟩ := Owns.form hown4; exact ⟨A, _, c, e⟩); have hx4 := h3a.box.grown hg4 nb; have f4 := hx4.frozen 1; obtain ⟨_, g1, _, _, _, _⟩ := hx4.cells)
      have hfin := h3a.wrote (x := ⟨n, ⟨#[]⟩, true⟩) (by simp only [h2w.out]; exact hown4) hg4 hat4 hok.out (by simp only [h2w.out, h2g.out]; have := h.out.len; omega)
      simp only [h2w.out] at hfin
      have hbut : But (b :: gm :: sm :: V.ownBlock.toList) w1 (w4.setCell ⟨b, 1, none⟩ (.slice A9 m9 c9)) := by
        have e1 : But (b :: gm :: sm :: V.ownBlock.toList) w1 w3 := (hbt.more (by simp)).trans (But.of_grown (F := [sm]) hg3 (by simp)) (by simp)
        exact (e1.trans (But.of_below (F := []) ((Below.refl _ w3).alloc (Nat.le_refl _) _)) (by simp)).trans (But.wrote hg4) (fun i hi => .inl (by simp at hi ⊢; rcases hi with hi | hi; exact .inl hi; exact .inr (.inr (.inr hi))))
      have hnew := own_new hat4 (b := b) (gm := gm) (sm := sm)
      have hsz : w1.heap.size ≤ (w3.alloc (.cells #[.string n, .string ⟨#[]⟩, .bool true] 83)).heap.size := by have := hbt.size; have := hg3.size; simp; omega
      go_ret
      exact ⟨by rw [hr.out]; rfl, by rw [hr.out]; exact ⟨_, ⟨gm, sm, _, rfl, hfin⟩, hbut, fun i hi => (hnew i hi).imp id fun e => Nat.le_trans hsz e⟩⟩
    · have hr : Hid (s.del n = (s.tried, 53)) := by unfold Hid Sto.del; rw [if_pos hz, hrn]; rfl
      rw [hrn] at hF
      replace hz := Lib.hid hz
      replace hrn := Lib.hid hrn
      replace hd := Lib.hid hd
      replace h := Lib.hid h
      go_enter Try.func48, Try.ntmps48
      go_wp2_with fail
      refine hG.mono ?_
      rintro e w1 ⟨rfl, rfl⟩
      go_wp2_with fail
      refine hF.mono ?_
      rintro e w2 ⟨rfl, h2, hbt⟩
      go_wp2_with fail
      go_ret
      exact ⟨by rw [hr.out]; rfl, by rw [hr.out]; exact StoTo.more ⟨_, ⟨gm, sm, V, rfl, h2⟩, hbt.more (by simp), fun i hi => .inl hi⟩ (Nat.le_succ _) hN⟩
  · have hr : Hid (s.del n = (s, (s.get n).2)) := by unfold Hid Sto.del; rw [if_neg hz]
    clear hF h
    have hz2 : ((s.get n).2 == 0) = false := by simpa using hz
    replace hz := Lib.hid hz
    obtain ⟨z, hzz⟩ : ∃ z, z = (s.get n).2 := ⟨_, rfl⟩
    rw [← hzz] at hz2 hG
    replace hzz := Lib.hid hzz
    go_enter Try.func48, Try.ntmps48
    go_wp2_with fail
    refine hG.mono ?_
    rintro e w1 ⟨rfl, rfl⟩
    go_wp2_with fail
    go_ret
    exact ⟨by rw [hr.out, ← hzz.out]; rfl, by rw [hr.out]; exact hsame.out⟩
end Go.Proofs.Ytfkonpmnclknaaa
