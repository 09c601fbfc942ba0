/-
  The reference's Del, Sync; what a write leaves.
-/
import Derived.Test.YtfkonpmnclknaaaGreatRefO
namespace Go.Proofs.YtfkonpmnclknaaaGreat
open Go.RowKit
attribute [local go_sem ↓] Go.wp_at_zero Go.wp_at_succ

theorem RefIn.ap_at {w : World} {b : Nat} {G V : Value} {s : Sto} (h : RefIn w b G V s) : G.ownBlock ≠ some b ∧ V.ownBlock ≠ some b ∧ (∀ i, G.ownBlock = some i → V.ownBlock ≠ some i) := by
  have hap := h.ap
  simp only [List.nodup_cons, List.mem_append, not_or, Option.mem_toList] at hap
  obtain ⟨⟨h1, h2⟩, h3⟩ := hap
  refine ⟨fun e => h1 (by simp [e]), fun e => h2 (by simp [e]), fun i e e' => ?_⟩
  rw [e, e'] at h3
  simp at h3
theorem ap_make {b : Nat} {G V : Value} (h1 : G.ownBlock ≠ some b) (h2 : V.ownBlock ≠ some b) (h3 : ∀ i, G.ownBlock = some i → V.ownBlock ≠ some i) : (b :: (G.ownBlock.toList ++ V.ownBlock.toList)).Nodup := by
  cases hg : G.ownBlock with
  | none =>
    cases hv : V.ownBlock with
    | none => simp
    | some j =>
      rw [hv] at h2
      have : ¬ b = j := fun e => h2 (by rw [e])
      simp [this]
  | some i =>
    rw [hg] at h1
    have k1 : ¬ b = i := fun e => h1 (by rw [e])
    cases hv : V.ownBlock with
    | none => simp [k1]
    | some j =>
      rw [hv] at h2
      have k2 : ¬ b = j := fun e => h2 (by rw [e])
      have k3 : ¬ i = j := fun e => h3 i hg (by rw [hv, e])
      simp [k1, k2, k3]

/-- A write more. -/
theorem RefIn.wrote {w w4 : World} {b : Nat} {G V v' : Value} {s s' : Sto} {x : Wr} (h : RefIn w b G V s) (ho : wrE.Own w4 0 v' (s.writes ++ [x])) (hg : w.grownBy w4 V.ownBlock) (hat : v'.ownBlock = V.ownBlock ∨ v'.ownBlock = some w.heap.size)
    (e1 : s'.good = s.good) (e2 : s'.writes = s.writes ++ [x]) (e3 : s'.down = s.down) (e4 : s'.refuse = s.refuse) (e5 : s'.room = s.room) : RefIn (w4.setCell ⟨b, 1, none⟩ v') b G v' s' := by
  obtain ⟨a1, a2, a3⟩ := h.ap_at
  have hb := h.box.lt
  have b2 : v'.ownBlock ≠ some b := by
    rcases hat with e | e
    · rw [e]; exact a2
    · rw [e]; intro e'; have := Option.some.inj e'; omega
  exact
    { box := by rw [e3, e4, e5]; exact (h.box.grown hg a2).set1 v'
      good := by
        rw [e1]
        refine h.good.blockS fun i e => ?_
        have hl := (h.good.within e).2
        have hne : i ≠ b := fun e' => a1 (by rw [e, e'])
        exact (Go.Deep.blk_setCell_other _ _ _ _ hne).trans (hg.block i hl fun e' => a3 i e e'.symm)
      own := by
        rw [e2]
        exact ho.blockS fun i e => Go.Deep.blk_setCell_other _ _ _ _ (fun e' => b2 (by rw [e]; exact congrArg some e'))
      ap := ap_make a1 b2 fun i e => by
        rcases hat with e' | e'
        · rw [e']; exact a3 i e
        · rw [e']; intro e9; have := (h.good.within e).2; have := Option.some.inj e9; omega }
theorem RefTo.wrote {w w4 : World} {b : Nat} {G V v' : Value} {s s' : Sto} {x : Wr} (h : RefIn w b G V s) (ho : wrE.Own w4 0 v' (s.writes ++ [x])) (hg : w.grownBy w4 V.ownBlock) (hat : v'.ownBlock = V.ownBlock ∨ v'.ownBlock = some w.heap.size)
    (e1 : s'.good = s.good) (e2 : s'.writes = s.writes ++ [x]) (e3 : s'.down = s.down) (e4 : s'.refuse = s.refuse) (e5 : s'.room = s.room) : RefTo b (b :: (G.ownBlock.toList ++ V.ownBlock.toList)) s' w (w4.setCell ⟨b, 1, none⟩ v') := by
  refine ⟨_, ⟨G, v', rfl, h.wrote ho hg hat e1 e2 e3 e4 e5⟩, (But.of_grown hg fun g e => by simp [e]).trans (But.of_set (F := [b]) v' (by simp)) (by simp), fun i hi => ?_⟩
  rcases hat with e | e
  · rw [e] at hi
    exact .inl hi
  · rw [e] at hi
    simp only [List.mem_cons, List.mem_append, Option.toList, List.not_mem_nil, or_false] at hi
    rcases hi with rfl | hi | rfl
    · exact .inl (by simp)
    · exact .inl (by simp only [List.mem_cons, List.mem_append, Option.toList]; exact .inr (.inl hi))
    · exact .inr (Nat.le_refl _)

theorem RefTo.after {b : Nat} {F : List Nat} {s' : Sto} {w w2 w' : World} (hb : But F w w2) (h : RefTo b F s' w2 w') : RefTo b F s' w w' := by
  obtain ⟨F1, h1, h2, h3⟩ := h
  exact ⟨F1, h1, hb.trans h2 fun i hi => .inl hi, fun i hi => (h3 i hi).imp id fun e => Nat.le_trans hb.size e⟩
theorem RefTo.over {b : Nat} {F F' : List Nat} {s' : Sto} {w w2 w' : World} (hb : But F w w2) (h : RefTo b F' s' w2 w') (hF : ∀ i ∈ F', i ∈ F ∨ w.heap.size ≤ i) : RefTo b F s' w w' := by
  obtain ⟨F1, h1, h2, h3⟩ := h
  refine ⟨F1, h1, hb.trans h2 hF, fun i hi => ?_⟩
  rcases h3 i hi with e | e
  · exact hF i e
  · exact .inr (Nat.le_trans hb.size e)
/-- Other objects are good. -/
theorem RefIn.goodTo {w w1 : World} {b : Nat} {G V v : Value} {s s' : Sto} (h : RefIn w b G V s) (ho : objE.Own w1 w.heap.size v s'.good) (hb : Below w.heap.size w w1)
    (e2 : s'.writes = s.writes) (e3 : s'.down = s.down) (e4 : s'.refuse = s.refuse) (e5 : s'.room = s.room) : RefIn (w1.setCell ⟨b, 0, none⟩ v) b v V s' := by
  obtain ⟨a1, a2, a3⟩ := h.ap_at
  have hl := h.box.lt
  have b1 : v.ownBlock ≠ some b := fun e => by have := (ho.within e).1; omega
  exact
    { box := by rw [e3, e4, e5]; exact (h.box.below hl hb).set0 v
      good := (Owns.from ho (Nat.zero_le _)).blockS fun i e => Go.Deep.blk_setCell_other _ _ _ _ (fun e' => b1 (by rw [e]; exact congrArg some e'))
      own := by
        rw [e2]
        refine h.own.blockS fun i e => ?_
        have hli := (h.own.within e).2
        have hne : i ≠ b := fun e' => a2 (by rw [e, e'])
        exact (Go.Deep.blk_setCell_other _ _ _ _ hne).trans (hb.block i hli)
      ap := ap_make b1 a2 fun i e e' => by have := (ho.within e).1; have := (h.own.within e').2; omega }
/-- No write is left. -/
theorem RefIn.writesTo {w : World} {b : Nat} {G V : Value} {s s' : Sto} (h : RefIn w b G V s) (e1 : s'.good = s.good) (e2 : s'.writes = []) (e3 : s'.down = s.down) (e4 : s'.refuse = s.refuse) (e5 : s'.room = s.room) : RefIn (w.setCell ⟨b, 1, none⟩ (.slice none 0 0)) b G (.slice none 0 0) s' := by
  obtain ⟨a1, a2, a3⟩ := h.ap_at
  exact
    { box := by rw [e3, e4, e5]; exact h.box.set1 _
      good := by rw [e1]; exact h.good.blockS fun i e => Go.Deep.blk_setCell_other _ _ _ _ (fun e' => a1 (by rw [e]; exact congrArg some e'))
      own := by rw [e2]; exact Owns.nil_
      ap := ap_make a1 (by simp [Value.ownBlock]) (by simp [Value.ownBlock]) }
theorem RefTo.goodTo {w w1 : World} {b : Nat} {G V v : Value} {s s' : Sto} (h : RefIn w b G V s) (ho : objE.Own w1 w.heap.size v s'.good) (hb : Below w.heap.size w w1)
    (e2 : s'.writes = s.writes) (e3 : s'.down = s.down) (e4 : s'.refuse = s.refuse) (e5 : s'.room = s.room) : RefTo b (b :: (G.ownBlock.toList ++ V.ownBlock.toList)) s' w (w1.setCell ⟨b, 0, none⟩ v) := by
  refine ⟨_, ⟨v, V, rfl, h.goodTo ho hb e2 e3 e4 e5⟩, (But.of_below (F := b :: (G.ownBlock.toList ++ V.ownBlock.toList)) hb).trans (But.of_set (F := [b]) v (by simp)) (by simp), fun i hi => ?_⟩
  simp only [List.mem_cons, List.mem_append, Option.mem_toList] at hi
  rcases hi with rfl | hi | hi
  · exact .inl (by simp)
  · exact .inr (ho.within hi).1
  · exact .inl (by simp [hi])
theorem RefTo.writesTo {w : World} {b : Nat} {G V : Value} {s s' : Sto} (h : RefIn w b G V s) (e1 : s'.good = s.good) (e2 : s'.writes = []) (e3 : s'.down = s.down) (e4 : s'.refuse = s.refuse) (e5 : s'.room = s.room) : RefTo b (b :: (G.ownBlock.toList ++ V.ownBlock.toList)) s' w (w.setCell ⟨b, 1, none⟩ (.slice none 0 0)) := by
  refine ⟨_, ⟨G, _, rfl, h.writesTo e1 e2 e3 e4 e5⟩, But.of_set _ (by simp), fun i hi => .inl ?_⟩
  simp only [List.mem_cons, List.mem_append, Value.ownBlock] at hi ⊢
  rcases hi with rfl | hi | hi
  · exact .inl rfl
  · exact .inr (.inl hi)
  · simp at hi

set_option maxHeartbeats 4000000 in
theorem ref07_Sync (b : Nat) (F : List Nat) (N : Nat) (s : Sto) (hs : StoOk N s) (w : World) (h : RefAt w b F s) :
    Calls Tryz.prog 74 #[.pointer (some ⟨b, 0, none⟩)] w fun e w' => e = .returned (.int .i64 s.sync.2) ∧ RefTo b F s.sync.1 w w' := by
  have hO := ref07_Objects b F N s hs w h
  have hsame := Lib.hid (RefTo.same h (Below.refl _ _))
  obtain ⟨G, V, rfl, h⟩ := h
  obtain ⟨c0, c1, c2, c3, c4⟩ := h.box.cells
  have hh := Lib.hid h
  have hlb := h.box.lt
  clear h hs
  cases hd : s.down
  · have hr : Hid (s.sync = (s.settled, 0)) := by unfold Hid Sto.sync; rw [hd]; rfl
    rw [hd] at c2
    replace hd := Lib.hid hd
    go_enter Tryz.func74, Tryz.ntmps74
    go_wp2_with fail
    refine hO.mono ?_
    rintro e w1 ⟨v, rfl, o1, b1⟩
    obtain ⟨A, m, c, rfl⟩ : ∃ A m c, v = .slice A m c := by obtain ⟨A, c, e⟩ := Owns.form o1; exact ⟨A, _, c, e⟩
    have hx := hh.out.box.below hlb b1
    have f0 := hx.frozen 0
    have hx2 := hx.set0 (.slice A m c)
    have f1 := hx2.frozen 1
    obtain ⟨d0, d1, d2, d3, d4⟩ := hx.cells
    obtain ⟨g0, g1, g2, g3, g4⟩ := hx2.cells
    have hto : Hid (RefTo b (b :: (G.ownBlock.toList ++ V.ownBlock.toList)) s.settled w ((w1.setCell ⟨b, 0, none⟩ (.slice A m c)).setCell ⟨b, 1, none⟩ (.slice none 0 0))) := by
      refine (RefTo.goodTo (s' := { s with good := s.seen }) hh.out o1 b1 rfl rfl rfl rfl).trans fun F1 h1 => ?_
      obtain ⟨G1, V1, rfl, h1⟩ := h1
      exact RefTo.writesTo h1 rfl rfl rfl rfl rfl
    clear o1
    replace hx := Lib.hid hx
    replace hx2 := Lib.hid hx2
    go_wp2_with fail
    go_ret
    exact ⟨by rw [hr.out]; rfl, by rw [hr.out]; exact hto.out⟩
  · have hr : Hid (s.sync = (s, 51)) := by unfold Hid Sto.sync; rw [hd]; rfl
    rw [hd] at c2
    replace hd := Lib.hid hd
    clear hO
    go_enter Tryz.func74, Tryz.ntmps74
    go_wp2_with fail
    go_ret
    exact ⟨by rw [hr.out]; rfl, by rw [hr.out]; exact hsame.out⟩

set_option maxHeartbeats 4000000 in
theorem ref07_Del (b : Nat) (F : List Nat) (N : Nat) (s : Sto) (hs : StoOk N s) (n : ByteArray) (w : World) (h : RefAt w b F s) :
    Calls Tryz.prog 70 #[.pointer (some ⟨b, 0, none⟩), .string n] w fun e w' => e = .returned (.int .i64 (s.del n).2) ∧ RefTo b F (s.del n).1 w w' := by
  have hG := ref07_Get b F N s hs n w h
  have hsame := Lib.hid fun W (hW : Below w.heap.size w W) => RefTo.same h hW
  obtain ⟨G, V, rfl, h⟩ := h
  have hlb := h.box.lt
  have hF := Lib.hid fun W (hW : RefIn W b G V s) => ref07_refused b G V s W hW hs.rf hs.rf9
  have hh := Lib.hid h
  have hlw : s.writes.length ≤ 1000000000 := by have := hs.len; have := hs.cap; omega
  have hblk : ∀ i ∈ b :: (G.ownBlock.toList ++ V.ownBlock.toList), i < w.heap.size := h.lt
  replace hblk := Lib.hid hblk
  clear h hs
  by_cases hz : (s.get n).2 = 0
  · rw [hz] at hG
    cases hrn : s.refNow
    · have hr : Hid (s.del n = ({ s.tried with seen := delO s.seen n, writes := s.writes ++ [⟨n, ⟨#[]⟩, true⟩] }, 0)) := by unfold Hid Sto.del; rw [if_pos hz, hrn]; rfl
      replace hz := Lib.hid hz
      rw [hrn] at hF
      replace hrn := Lib.hid hrn
      go_enter Tryz.func70, Tryz.ntmps70
      go_wp2_with fail
      refine hG.mono ?_
      rintro e w1 ⟨rfl, b1⟩
      go_wp2_with fail
      refine (hF.out w1 (hh.out.block fun i hi => b1.block i (hblk.out i hi))).mono ?_
      rintro e w2 ⟨rfl, h2, hbt⟩
      obtain ⟨_, c1, c2, _, _⟩ := h2.box.cells
      have hl2 := h2.box.lt
      have nb := h2.ap_at.2.1
      have h3a := h2.block (w' := w2.alloc (.cells #[.string n, .string ⟨#[]⟩, .bool true] 115)) fun i hi => Go.Deep.blk_alloc_lt _ _ _ (h2.lt i hi)
      have ho3 := h3a.own
      have h2w : s.tried.writes = s.writes := tried_writes s
      rw [h2w] at ho3
      replace h2w := Lib.hid h2w
      replace h2 := Lib.hid h2
      replace h3a := Lib.hid h3a
      obtain ⟨AV, mV, cV, rfl⟩ : ∃ A m c, V = .slice A m c := by obtain ⟨A, c, e⟩ := Owns.form ho3; exact ⟨A, _, c, e⟩
      go_wp2_with (at_builtin; go_must (refine Elem.wpList_one wrE rfl (.tmp 22) (.tmp 26) rfl (0) _ (s.writes) rfl _ _ (⟨n, ⟨#[]⟩, true⟩ : Wr) rfl (ho3) (fun j u hu => by rcases j with _ | _ | _ | j <;> simp [wrE, Wr.cells] at hu <;> subst hu <;> go_simp) (by first | omega | (simp; omega)) (by first | omega | (simp; try omega)) ?_); intro v4 w4 hown4 hg4 hat4; obtain ⟨A9, m9, c9, rfl⟩ : ∃ A m c, v4 = .slice A m c := (by obtain ⟨A, c, e⟩ := Owns.form hown4; exact ⟨A, _, c, e⟩); have hx4 := h3a.out.box.grown hg4 nb; have f4 := hx4.frozen 1; obtain ⟨_, g1, _, _, _⟩ := hx4.cells)
      have hfin := RefTo.wrote (s' := { s.tried with seen := delO s.seen n, writes := s.writes ++ [⟨n, ⟨#[]⟩, true⟩] }) (x := ⟨n, ⟨#[]⟩, true⟩) h3a.out (by rw [h2w.out]; exact hown4) hg4 hat4 rfl (by rw [h2w.out]) rfl rfl rfl
      go_ret
      refine ⟨by rw [hr.out]; rfl, ?_⟩
      rw [hr.out]
      exact RefTo.after (((But.of_below b1).trans (hbt.more (G := b :: (G.ownBlock.toList ++ (Value.slice AV mV cV).ownBlock.toList)) (by simp)) (fun i hi => .inl hi)).trans (But.of_below (F := []) ((Below.refl _ w2).alloc (Nat.le_refl _) _)) (by simp)) hfin
    · have hr : Hid (s.del n = (s.tried, 53)) := by unfold Hid Sto.del; rw [if_pos hz, hrn]; rfl
      replace hz := Lib.hid hz
      rw [hrn] at hF
      replace hrn := Lib.hid hrn
      go_enter Tryz.func70, Tryz.ntmps70
      go_wp2_with fail
      refine hG.mono ?_
      rintro e w1 ⟨rfl, b1⟩
      go_wp2_with fail
      refine (hF.out w1 (hh.out.block fun i hi => b1.block i (hblk.out i hi))).mono ?_
      rintro e w2 ⟨rfl, h2, hbt⟩
      go_wp2_with fail
      go_ret
      exact ⟨by rw [hr.out]; rfl, by rw [hr.out]; exact ⟨_, ⟨G, V, rfl, h2⟩, (But.of_below b1).trans (hbt.more (by simp)) (fun i hi => .inl hi), fun i hi => .inl hi⟩⟩
  · have hr : Hid (s.del n = (s, (s.get n).2)) := by unfold Hid Sto.del; rw [if_neg hz]
    clear hF
    have hz2 : ((s.get n).2 == 0) = false := by simpa using hz
    replace hz := Lib.hid hz
    obtain ⟨z, hzz⟩ : ∃ z, z = (s.get n).2 := ⟨_, rfl⟩
    rw [← hzz] at hz2 hG
    replace hzz := Lib.hid hzz
    go_enter Tryz.func70, Tryz.ntmps70
    go_wp2_with fail
    refine hG.mono ?_
    rintro e w1 ⟨rfl, b1⟩
    go_wp2_with fail
    go_ret
    exact ⟨by rw [hr.out, ← hzz.out]; rfl, by rw [hr.out]; exact hsame.out _ b1⟩
end Go.Proofs.YtfkonpmnclknaaaGreat
