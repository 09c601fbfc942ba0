/-
  The small functions of chapter 8: SameObjects, texts (which writes over), in.
-/
import Derived.Test.YtfkonpmnclknaaaGreatRwlG
import Derived.Test.YtfkonpmnclknaaaGreatWrit
namespace Go.Proofs.YtfkonpmnclknaaaGreat
open Go.RowKit
attribute [local go_sem ↓] Go.wp_at_zero Go.wp_at_succ

set_option maxHeartbeats 4000000 in
theorem ref08_SameObjects (A : Option Addr) (n c : Nat) (A' : Option Addr) (n' c' : Nat) (l : List Ob) (w : World) (h : ObsAt w w.heap.size A n l) (h' : ObsAt w w.heap.size A' n' l) :
    Calls Tryz.prog 30 #[.slice A n c, .slice A' n' c'] w fun e w' => e = .returned (.bool true) ∧ Below w.heap.size w w' := by
  obtain rfl : n = n' := by rw [← h.1, ← h'.1]
  have hn9 := h.2.1
  go_enter Tryz.func30, Tryz.ntmps30
  go_wp2_with fail
  go_loopw [5] (fun i wr => ∃ j : Nat, j ≤ n ∧ i = .int .i64 j ∧ Below w.heap.size w wr) (fun i _ => n - (intOf i).toNat)
  case atStart => exact ⟨0, Nat.zero_le _, rfl, Below.refl _ _⟩
  case round =>
    obtain ⟨j, hj, rfl, hbr⟩ := hrel
    obtain ⟨wp, rfl⟩ : ∃ x : World, x = wr := ⟨_, rfl⟩
    by_cases hlt : j < n
    · obtain ⟨b0, off, p, rfl, hb0, hx, q0, q1⟩ := (h.to hbr).ob hlt
      obtain ⟨b1, off1, p1, rfl, hb1, hx1, r0, r1⟩ := (h'.to hbr).ob hlt
      obtain rfl : p = p1 := by rw [hx] at hx1; exact Option.some.inj hx1
      have e0 : (p.1.toList == p.1.toList) = true := by simp
      have e1 : (p.2.toList == p.2.toList) = true := by simp
      replace hx := Lib.hid hx
      replace hx1 := Lib.hid hx1
      go_wp2_with fail
      go_quiet (fail)
      go_wp2_with fail
      go_roundw
      case rel => exact ⟨j + 1, by omega, by go_num, (by repeat (first | exact Below.refl _ _ | assumption | refine Below.drew ?_ | refine below_drewN ?_ _ | refine Below.alloc ?_ (by first | omega | (simp; try omega)) _ | refine Below.setCell ?_ (by first | omega | (simp; try omega)) _ | (refine Below.trans ?_ (Below.mono (by assumption) (by first | omega | (simp; try omega))))))⟩
      case measure => simp [intOf]; omega
    · obtain rfl : j = n := by omega
      go_wp2_with fail
      go_ret
      exact ⟨rfl, hbr⟩

set_option maxHeartbeats 4000000 in
theorem law08_in (A : Option Addr) (n c : Nat) (l : List Int) (i : Int) (w : World) (h : IntsAt w w.heap.size A n l) :
    Calls Tryz.prog 26 #[.slice A n c, .int .i64 i] w fun e w' => e = .returned (.bool (decide (i ∈ l))) ∧ w' = w := by
  have hn9 := h.2.1
  have hl := Lib.hid h.1
  go_enter Tryz.func26, Tryz.ntmps26
  go_wp2_with fail
  go_loopw [5] (fun t wr => ∃ j : Nat, j ≤ n ∧ t = .int .i64 j ∧ Hid (i ∉ l.take j) ∧ wr = w) (fun t _ => n - (intOf t).toNat)
  case atStart => exact ⟨0, Nat.zero_le _, rfl, by unfold Hid; simp, rfl⟩
  case round =>
    obtain ⟨j, hj, rfl, hno, rfl⟩ := hrel
    by_cases hlt : j < n
    · obtain ⟨b0, off, k, rfl, hb0, hx, q0⟩ := h.int hlt
      by_cases hk : k = i
      · subst hk
        have hr : Hid (decide (k ∈ l) = true) := by unfold Hid; simpa using List.mem_of_getElem? hx
        have e0 : (k == k) = true := by simp
        replace hx := Lib.hid hx
        go_wp2_with fail
        go_ret
        exact ⟨by rw [hr.out]; rfl, rfl⟩
      · have e0 : (k == i) = false := by simpa using hk
        have hno2 : Hid (i ∉ l.take (j + 1)) := by
          unfold Hid
          rw [List.take_add_one, hx]
          simp only [List.mem_append, not_or]
          exact ⟨hno.out, by simpa using fun e => hk e.symm⟩
        replace hk := Lib.hid hk
        replace hx := Lib.hid hx
        go_wp2_with fail
        go_roundw
        case rel => exact ⟨j + 1, by omega, by go_num, hno2, trivial⟩
        case measure => simp [intOf]; omega
    · obtain rfl : j = n := by omega
      have hr : Hid (decide (i ∈ l) = false) := by
        have := hno.out
        rw [List.take_of_length_le (by have := hl.out; omega)] at this
        unfold Hid
        simpa using this
      go_wp2_with fail
      go_ret
      exact ⟨by rw [hr.out]; rfl, rfl⟩

set_option maxHeartbeats 4000000 in
/-- texts: the first ones are written over, as far as they are the same. -/
theorem law08_texts (A : Option Addr) (n c : Nat) (A' : Option Addr) (n' c' : Nat) (l l' : List ByteArray) (base : Nat) (w : World) (h : StrsAt w w.heap.size A n l) (hw : Writ 1 w base A n) (h' : StrsAt w w.heap.size A' n' l') (hap : ∀ a oa b ob, A = some ⟨a, oa, none⟩ → A' = some ⟨b, ob, none⟩ → a ≠ b) (hbs : base ≤ w.heap.size) :
    Calls Tryz.prog 41 #[.slice A n c, .slice A' n' c'] w fun e w' => e = .returned (.bool (decide (l = l'))) ∧ Below base w w' ∧ ∃ F : List Nat, But F w w' ∧ ∀ i ∈ F, ∃ o, A = some ⟨i, o, none⟩ := by
  have hn9 := h.2.1
  have hl := Lib.hid h.1
  have hl' := Lib.hid h'.1
  by_cases hnn : n = n'
  · subst hnn
    rcases Nat.eq_zero_or_pos n with h0 | h0
    · subst h0
      have e1 : l = [] := List.eq_nil_of_length_eq_zero hl.out
      have e2 : l' = [] := List.eq_nil_of_length_eq_zero hl'.out
      subst e1 e2
      go_enter Tryz.func41, Tryz.ntmps41
      go_wp2_with fail
      go_loopw [5] (fun i wr => i = .int .i64 0 ∧ wr = w) (fun i _ => 0)
      case atStart => exact ⟨rfl, rfl⟩
      case round =>
        obtain ⟨rfl, rfl⟩ := hrel
        go_wp2_with fail
        go_ret
        exact ⟨rfl, Below.refl _ _, [], But.refl _ _, by simp⟩
    · obtain ⟨a, oa, rfl, haw, hac⟩ := h.2.2 h0
      obtain ⟨b, ob, rfl, hbw, hbc⟩ := h'.2.2 h0
      obtain ⟨a1, oa1, e1, hbase, _⟩ := hw h0
      obtain ⟨rfl, rfl⟩ : a = a1 ∧ oa = oa1 := by simpa using e1
      have hab : a ≠ b := hap a oa b ob rfl rfl
      have hap' : ∀ p : Addr, p.block = b → p.block ≠ a := fun p e e' => hab (by rw [← e', e])
      replace hac := Lib.hid hac
      replace hap := Lib.hid hap
      clear hbc e1
      go_enter Tryz.func41, Tryz.ntmps41
      go_wp2_with fail
      go_loopw [5] (fun i wr => ∃ j : Nat, j ≤ n ∧ i = .int .i64 j ∧ Hid (l.take j = l'.take j) ∧ Below base w wr ∧ But [a] w wr ∧ Writ 1 wr base (some ⟨a, oa, none⟩) n ∧ Hid (∀ i s, j ≤ i → l[i]? = some s → wr.cell? ⟨a, oa + i, none⟩ = some (.string s))) (fun i _ => n - (intOf i).toNat)
      case atStart => exact ⟨0, Nat.zero_le _, rfl, by unfold Hid; simp, Below.refl _ _, But.refl _ _, hw, by unfold Hid; intro i s _ hs; simpa using hac.out i s hs 0 _ rfl⟩
      case round =>
        obtain ⟨j, hj, rfl, heq, hbr, hbt, hww, hcs⟩ := hrel
        obtain ⟨wp, rfl⟩ : ∃ x : World, x = wr := ⟨_, rfl⟩
        by_cases hlt : j < n
        · obtain ⟨x, hx⟩ : ∃ x, l[j]? = some x := getElem_some (by rw [hl.out]; exact hlt)
          have q0 := hcs.out j _ (Nat.le_refl _) hx
          obtain ⟨b2, ob2, y, e2, _, hy, r0⟩ := (h'.but hbt (Nat.le_refl _) (fun b3 o3 e3 => by cases e3; simp; exact fun e => hab e.symm)).str hlt
          obtain ⟨rfl, rfl⟩ : b = b2 ∧ ob = ob2 := by simpa using e2
          clear e2
          obtain ⟨a2, oa2, uu, e3, _, q1, qf⟩ := hww.at_ hlt (by decide)
          obtain ⟨rfl, rfl⟩ : a = a2 ∧ oa = oa2 := by simpa using e3
          clear e3
          rw [Nat.mul_one] at q1 qf
          have hup : Below base w (wp.setCell ⟨a, oa + j, none⟩ (.string ⟨#[115, 112, 111, 105, 108, 116]⟩)) := hbr.setCell (p := ⟨a, oa + j, none⟩) hbase _
          have hbt2 : But [a] w (wp.setCell ⟨a, oa + j, none⟩ (.string ⟨#[115, 112, 111, 105, 108, 116]⟩)) := hbt.trans (But.of_set (F := [a]) _ (by simp)) (by simp)
          have hww2 : Writ 1 (wp.setCell ⟨a, oa + j, none⟩ (.string ⟨#[115, 112, 111, 105, 108, 116]⟩)) base (some ⟨a, oa, none⟩) n := hww.setCell _ _
          have hcs2 : Hid (∀ i s, j + 1 ≤ i → l[i]? = some s → (wp.setCell ⟨a, oa + j, none⟩ (.string ⟨#[115, 112, 111, 105, 108, 116]⟩)).cell? ⟨a, oa + i, none⟩ = some (.string s)) := by
            unfold Hid
            intro i s hi hs
            rw [World.cell?_setCell_other _ _ _ _ (by first | (simp; done) | (simp; omega))]
            exact hcs.out i s (by omega) hs
          have hstep : x = y → Hid (l.take (j + 1) = l'.take (j + 1)) := fun e => by
            unfold Hid
            rw [List.take_add_one, List.take_add_one, heq.out, hx, hy, e]
          have hbad : x ≠ y → Hid (decide (l = l') = false) := fun e => by
            unfold Hid
            rw [decide_eq_false_iff_not]
            intro e2
            rw [e2, hy] at hx
            exact e (Option.some.inj hx).symm
          replace hx := Lib.hid hx
          replace hy := Lib.hid hy
          replace hww := Lib.hid hww
          clear heq q1
          by_cases e0 : x = y
          · have i0 := str_eq e0
            have hs := hstep e0
            clear hstep hbad
            replace e0 := Lib.hid e0
            go_wp2_with fail
            go_quiet (fail)
            rename_i nq
            have z0 : (wp.drewN nq).cell? ⟨a, oa + j, none⟩ = some (.string x) := q0
            have zf : (wp.drewN nq).frozen? ⟨a, oa + j, none⟩ = false := qf
            go_wp2_with fail
            go_roundw
            case rel => exact ⟨j + 1, by omega, by go_num, hs, ⟨hup.os, hup.tape, hup.output, hup.size, hup.block⟩, ⟨hbt2.os, hbt2.tape, hbt2.output, hbt2.size, hbt2.block⟩, hww2, hcs2⟩
            case measure => simp [intOf]; omega
          · have i0 := str_ne e0
            have hb := hbad e0
            clear hstep hbad
            replace e0 := Lib.hid e0
            go_wp2_with fail
            go_quiet (fail)
            rename_i nq
            go_wp2_with fail
            go_ret
            exact ⟨by rw [hb.out]; rfl, ⟨hbr.os, hbr.tape, hbr.output, hbr.size, hbr.block⟩, [a], ⟨hbt.os, hbt.tape, hbt.output, hbt.size, hbt.block⟩, fun i hi => ⟨oa, by simp at hi; subst hi; rfl⟩⟩
        · obtain rfl : j = n := by omega
          have hs : Hid (decide (l = l') = true) := by
            unfold Hid
            rw [decide_eq_true_eq]
            have := heq.out
            rwa [List.take_of_length_le (by have := hl.out; omega), List.take_of_length_le (by have := hl'.out; omega)] at this
          go_wp2_with fail
          go_ret
          exact ⟨by rw [hs.out]; rfl, hbr, [a], hbt, fun i hi => ⟨oa, by simp at hi; subst hi; rfl⟩⟩
  · have hb : Hid (decide (l = l') = false) := by
      unfold Hid
      rw [decide_eq_false_iff_not]
      intro e
      exact hnn (by rw [← hl.out, ← hl'.out, e])
    have hnb : ((n : Int) != (n' : Int)) = true := by rw [bne_iff_ne]; omega
    replace hnn := Lib.hid hnn
    go_enter Tryz.func41, Tryz.ntmps41
    go_wp2_with fail
    go_ret
    exact ⟨by rw [hb.out]; rfl, Below.refl _ _, [], But.refl _ _, by simp⟩
end Go.Proofs.YtfkonpmnclknaaaGreat
/-
  Plain laws: what a store is goes on to be; two worlds in memory, the program's and the reference's.
-/
namespace Go.Proofs.YtfkonpmnclknaaaGreat
open Go.RowKit

theorem StoOk.next {N : Nat} {s : Sto} (h : StoOk N s) (hN : N + 1 ≤ 1000000) : StoOk (N + 1) s := h.more (Nat.le_succ _) hN
theorem StoOk.tried {N : Nat} {s : Sto} (h : StoOk N s) : StoOk N s.tried := by
  have h1 := h.rf
  have h2 := h.rf9
  exact { coh := tried_coh h.coh, ng := by rw [tried_good]; exact h.ng, nw := by rw [tried_writes]; exact h.nw, len := by rw [tried_good, tried_writes]; exact h.len, cap := h.cap
          rf := by unfold Sto.tried; split <;> (try dsimp only) <;> omega
          rf9 := by unfold Sto.tried; split <;> (try dsimp only) <;> omega
          rm := by unfold Sto.tried; split <;> exact h.rm
          rm9 := by unfold Sto.tried; split <;> exact h.rm9 }
theorem StoOk.wrote {N : Nat} {s : Sto} {x : Wr} {l : List Ob} (h : StoOk N s) (hN : N + 1 ≤ 1000000) (hx : OkO (x.name, x.data)) (hl : l = fullO s.seen x) : StoOk (N + 1) { s.tried with seen := l, writes := s.writes ++ [x] } := by
  have ht := h.tried
  exact { coh := by show l = fullGo (s.writes ++ [x]) s.tried.good; rw [fullGo_snoc, tried_good, ← h.coh]; exact hl
          ng := ht.ng
          nw := fun y hy => by
            rcases List.mem_append.1 hy with hy | hy
            · exact h.nw y hy
            · rw [List.mem_singleton.1 hy]; exact hx
          len := by
            have := h.len
            simp only [List.length_append, List.length_cons, List.length_nil, tried_good]
            omega
          cap := hN, rf := ht.rf, rf9 := ht.rf9, rm := ht.rm, rm9 := ht.rm9 }
theorem StoOk.put {N : Nat} {s : Sto} (h : StoOk N s) (hN : N + 1 ≤ 1000000) (o : Ob) : StoOk (N + 1) (s.put o).1 := by
  unfold Sto.put
  split
  · exact h.next hN
  · rename_i hb
    have hk : OkO (o.1, o.2) := by
      unfold badO at hb
      simp only [Bool.or_eq_true, decide_eq_true_eq, not_or] at hb
      exact ⟨by show o.1.size ≤ 80; omega, by show o.2.size ≤ 65536; omega⟩
    split
    · exact h.next hN
    · split
      · exact h.next hN
      · split
        · exact h.tried.next hN
        · exact h.wrote (x := ⟨o.1, o.2, false⟩) hN hk rfl
theorem StoOk.del {N : Nat} {s : Sto} (h : StoOk N s) (hN : N + 1 ≤ 1000000) (n : ByteArray) : StoOk (N + 1) (s.del n).1 := by
  unfold Sto.del
  split
  · rename_i hg
    split
    · exact h.tried.next hN
    · obtain ⟨_, d, hd⟩ := get_some hg
      have hk := h.ns _ (lookO_mem hd)
      exact h.wrote (x := ⟨n, ⟨#[]⟩, true⟩) hN ⟨hk.1, by show (0 : Nat) ≤ _; omega⟩ rfl
  · exact h.next hN
theorem StoOk.settled {N : Nat} {s : Sto} (h : StoOk N s) : StoOk N s.settled :=
  { coh := rfl, ng := h.ns, nw := by simp [Sto.settled], len := by have := h.seenLen; simpa [Sto.settled] using this, cap := h.cap, rf := h.rf, rf9 := h.rf9, rm := h.rm, rm9 := h.rm9 }
theorem StoOk.sync {N : Nat} {s : Sto} (h : StoOk N s) : StoOk N s.sync.1 := by
  unfold Sto.sync
  split
  · exact h
  · exact h.settled
theorem StoOk.crash {N : Nat} {s : Sto} (h : StoOk N s) (l : List Int) : StoOk N (s.crash l) :=
  { coh := rfl, ng := crashGo_ok h.ng h.nw, nw := by simp [Sto.crash], len := by have := crashGo_len s.writes l s.good; have := h.len; simp [Sto.crash]; omega, cap := h.cap, rf := h.rf, rf9 := h.rf9, rm := h.rm, rm9 := h.rm9 }
/-- Settled with other objects that are seen. -/
theorem StoOk.other {N M : Nat} {s : Sto} (h : StoOk N s) {l : List Ob} (hl : l.length ≤ M) (hok : ∀ p ∈ l, OkO p) (hM : M ≤ 1000000) : StoOk M ({ s with seen := l } : Sto).settled :=
  { coh := rfl, ng := hok, nw := by simp [Sto.settled], len := by simpa [Sto.settled] using hl, cap := hM, rf := h.rf, rf9 := h.rf9, rm := h.rm, rm9 := h.rm9 }
theorem StoOk.strike {N : Nat} {s : Sto} (h : StoOk N s) (hN : N + 1 ≤ 1000000) (f : Flt) (hf : f.fit) : StoOk (N + 1) (s.strike f).1 := by
  have hsl := h.seenLen
  unfold Sto.strike
  split
  · exact h.next hN
  · rename_i hb
    have hbad : ¬ f.n < 0 := by
      intro e
      apply hb
      unfold Flt.bad
      simp [e]
    dsimp only
    split
    · exact h.other (by simp) (by simp) hN
    · split
      · unfold Sto.lost
        split
        · exact h.settled.next hN
        · rename_i p _
          exact h.other (Nat.le_trans (delO_len _ _) (by omega)) (fun q hq => h.ns q (delO_mem.1 hq).1) hN
      · split
        · unfold Sto.bent
          split
          · exact h.settled.next hN
          · rename_i p hp
            split
            · exact h.settled.next hN
            · have hpm := h.ns p (hit_mem hp)
              refine h.other (Nat.le_trans (putO_len _ _) (by omega)) (fun q hq => ?_) hN
              rcases putO_mem.1 hq with rfl | hq
              · refine ⟨hpm.1, ?_⟩
                show (bentB p.2 f.at_ f.c).size ≤ 65536
                have : (bentB p.2 f.at_ f.c).size = p.2.size := by
                  unfold bentB
                  rw [strU_size, List.length_set]
                  exact Array.length_toList
                rw [this]
                exact hpm.2
              · exact h.ns q hq.1
        · split
          · exact (StoOk.next (s := { s with down := true }) { h with } hN)
          · split
            · exact (StoOk.next (s := { s with down := false }) { h with } hN)
            · split
              · exact (StoOk.next (s := { s with refuse := f.n }) { h with rf := by dsimp only; omega, rf9 := hf.1 } hN)
              · exact (StoOk.next (s := { s with room := f.n }) { h with rm := by dsimp only; omega, rm9 := hf.1 } hN)

/-- All stores of a world are what they are to be. -/
def WOk (N : Nat) (m : Wld) : Prop := ∀ p ∈ m.stores, StoOk N p.1
theorem WOk.more {N M : Nat} {m : Wld} (h : WOk N m) (hM : N ≤ M) (hc : M ≤ 1000000) : WOk M m := fun p hp => (h p hp).more hM hc
theorem WOk.put {N M : Nat} {m : Wld} {i : Nat} {s : Sto} (h : WOk N m) (hs : StoOk M s) (hM : N ≤ M) (hc : M ≤ 1000000) : WOk M (m.put i s) := fun p hp => by
  obtain ⟨j, hj⟩ := List.getElem?_of_mem hp
  rw [put_at] at hj
  cases hm : m.stores[j]? with
  | none => rw [hm] at hj; simp at hj
  | some q =>
    rw [hm] at hj
    simp only [Option.map_some, Option.some.injEq] at hj
    split at hj
    · rw [← hj]; exact hs
    · rw [← hj]; exact (h q (List.mem_of_getElem? hm)).more hM hc
theorem WOk.go {N M : Nat} {m : Wld} {i : Int} {g : Sto → Sto} (h : WOk N m) (hg : ∀ s, StoOk N s → StoOk M (g s)) (hM : N ≤ M) (hc : M ≤ 1000000) : WOk M (m.go i g) := by
  unfold Wld.go
  split
  · split
    · exact h.more hM hc
    · split
      · rename_i p hp
        exact WOk.put (m := m.tick) h (hg _ (h _ (List.mem_of_getElem? hp))) hM hc
      · exact h.more hM hc
  · exact h.more hM hc
theorem WOk.clear {N : Nat} {m : Wld} (h : WOk N m) : WOk N m.clear := fun p hp => by
  unfold Wld.clear at hp
  simp only [List.mem_map] at hp
  obtain ⟨q, hq, rfl⟩ := hp
  exact h q hq
theorem WOk.crash {N : Nat} {m : Wld} (h : WOk N m) (ks : List (List Int)) : WOk N (m.crash ks) := fun p hp => by
  have hp2 : p ∈ (m.crashTo ks m.stores.length).stores := hp
  obtain ⟨j, hj⟩ := List.getElem?_of_mem hp2
  rw [crashTo_at] at hj
  cases hm : m.stores[j]? with
  | none => rw [hm] at hj; simp at hj
  | some q =>
    rw [hm] at hj
    simp only [Option.map_some, Option.some.injEq] at hj
    split at hj
    · rw [← hj]; exact (h q (List.mem_of_getElem? hm)).crash _
    · rw [← hj]; exact h q (List.mem_of_getElem? hm)
theorem WOk.mark {N : Nat} {m : Wld} (h : WOk N m) (i : Nat) (u : Bool) : WOk N (m.mark i u) := fun p hp => by
  obtain ⟨j, hj⟩ := List.getElem?_of_mem hp
  rw [mark_at] at hj
  cases hm : m.stores[j]? with
  | none => rw [hm] at hj; simp at hj
  | some q =>
    rw [hm] at hj
    simp only [Option.map_some, Option.some.injEq] at hj
    split at hj
    · rw [← hj]; exact h q (List.mem_of_getElem? hm)
    · rw [← hj]; exact h q (List.mem_of_getElem? hm)
theorem WOk.strike {N : Nat} {m : Wld} (h : WOk N m) (hN : N + 1 ≤ 1000000) (f : Flt) (hf : f.fit) : WOk (N + 1) (m.strike f).1 := by
  unfold Wld.strike
  split
  · split
    · rename_i p hp
      have hs := (h _ (List.mem_of_getElem? hp)).strike hN f hf
      have hput := WOk.put (i := f.store.toNat) h hs (Nat.le_succ _) hN
      split
      · split
        · exact hput
        · exact hput.mark _ _
      · exact hput
    · exact h.more (Nat.le_succ _) hN
  · exact h.more (Nat.le_succ _) hN
theorem WOk.cut {N : Nat} {m : Wld} (h : WOk N m) (n : Int) : WOk N (m.cut n).1 := by
  unfold Wld.cut
  split <;> exact h

theorem go_len (m : Wld) (i : Int) (g : Sto → Sto) : (m.go i g).stores.length = m.stores.length := by
  unfold Wld.go
  split
  · split
    · rfl
    · split
      · simp [Wld.put, Wld.tick]
      · rfl
  · rfl
theorem go_calls (m : Wld) (i : Int) (g : Sto → Sto) : (m.go i g).calls ≤ m.calls + 1 := by
  unfold Wld.go
  split
  · split
    · exact Nat.le_refl _
    · split <;> exact Nat.le_refl _
  · exact Nat.le_succ _
theorem strike_len (m : Wld) (f : Flt) : (m.strike f).1.stores.length = m.stores.length := by
  unfold Wld.strike
  split
  · split
    · split
      · split <;> simp [Wld.put, Wld.mark]
      · simp [Wld.put]
    · rfl
  · rfl
theorem strike_calls (m : Wld) (f : Flt) : (m.strike f).1.calls = m.calls := by
  unfold Wld.strike
  split
  · split
    · split
      · split <;> rfl
      · rfl
    · rfl
  · rfl
theorem cut_len (m : Wld) (n : Int) : (m.cut n).1.stores.length = m.stores.length := by unfold Wld.cut; split <;> rfl
theorem cut_calls (m : Wld) (n : Int) : (m.cut n).1.calls = m.calls := by unfold Wld.cut; split <;> rfl
theorem crash_len (m : Wld) (ks : List (List Int)) : (m.crash ks).stores.length = m.stores.length := crashTo_len m ks _
theorem clear_len (m : Wld) : m.clear.stores.length = m.stores.length := by simp [Wld.clear]

/-- The program's world and the reference's, apart. -/
structure WTwo (w : World) (b : Nat) (X : List Nat) (N c : Nat) (Y : List Nat) (m x : Wld) : Prop where
  p : WldAt w b X N m
  r : RWAt w c Y x
  ok : WOk N x
  sep : ∀ i ∈ X, i ∉ Y
  cm : m.calls ≤ N
  cx : x.calls ≤ N
  nm : 0 < m.stores.length
  nx : 0 < x.stores.length
def WTo (b : Nat) (X : List Nat) (N c : Nat) (Y : List Nat) (m x : Wld) (w w' : World) : Prop :=
  ∃ X' Y', WTwo w' b X' N c Y' m x ∧ But (X ++ Y) w w' ∧ ∀ i ∈ X' ++ Y', i ∈ X ++ Y ∨ w.heap.size ≤ i
section
variable {w w0 w1 w2 w' : World} {b c N M : Nat} {X Y : List Nat} {m x m' x' : Wld}
theorem WTwo.below (h : WTwo w b X N c Y m x) (hb : Below w.heap.size w w') : WTwo w' b X N c Y m x := { h with p := h.p.below hb, r := h.r.below hb }
theorem WTwo.more (h : WTwo w b X N c Y m x) (hM : N ≤ M) (hc : M ≤ 1000000) : WTwo w b X M c Y m x := { h with p := h.p.more hM hc, ok := h.ok.more hM hc, cm := Nat.le_trans h.cm hM, cx := Nat.le_trans h.cx hM }
theorem WTwo.lt (h : WTwo w b X N c Y m x) : ∀ i ∈ X ++ Y, i < w.heap.size := fun i hi => (List.mem_append.1 hi).elim (h.p.lt i) (h.r.lt i)
theorem WTwo.but {F : List Nat} (h : WTwo w b X N c Y m x) (hb : But F w w') (hF : ∀ i ∈ X ++ Y, i ∉ F) : WTwo w' b X N c Y m x :=
  { h with p := h.p.but hb fun i hi => hF i (List.mem_append.2 (.inl hi)), r := h.r.but hb fun i hi => hF i (List.mem_append.2 (.inr hi)) }
theorem WTwo.ref_after (h : WTwo w b X N c Y m x) (hA : Below w.heap.size w w0) (t1 : WldTo b X M m' w0 w1) : RWAt w1 c Y x := by
  obtain ⟨F', h1, h2, h3⟩ := t1
  exact (h.r.below hA).but h2 fun i hi hf => h.sep i hf hi
theorem WTwo.prog_after (h : WTwo w b X N c Y m x) (hA : Below w.heap.size w w0) (t1 : RWTo c Y x' w0 w1) : WldAt w1 b X N m := by
  obtain ⟨G', h1, h2, h3⟩ := t1
  exact (h.p.below hA).but h2 h.sep
theorem WTo.same (h : WTwo w b X N c Y m x) (hb : Below w.heap.size w w') : WTo b X N c Y m x w w' := ⟨X, Y, h.below hb, But.of_below hb, fun _ hi => .inl hi⟩
theorem WTo.more (h : WTo b X N c Y m x w w') (hM : N ≤ M) (hc : M ≤ 1000000) : WTo b X M c Y m x w w' := by
  obtain ⟨X', Y', h1, h2⟩ := h
  exact ⟨X', Y', h1.more hM hc, h2⟩
theorem WTo.then_ (h : WTo b X N c Y m x w w1) (hb : Below w1.heap.size w1 w') : WTo b X N c Y m x w w' := by
  obtain ⟨X', Y', h1, h2, h3⟩ := h
  exact ⟨X', Y', h1.below hb, h2.trans (But.of_below (F := []) hb) (by simp), h3⟩
theorem WTo.doneX {F1 G1 : List Nat} (h : WTwo w b X N c Y m x) (hA : Below w.heap.size w w0) (h1 : WldAt w1 b F1 M m') (h2 : But X w0 w1) (h3 : ∀ i ∈ F1, i ∈ X ∨ w0.heap.size ≤ i) (k1 : RWAt w2 c G1 x') (k2 : But Y w1 w2) (k3 : ∀ i ∈ G1, i ∈ Y ∨ w1.heap.size ≤ i) (hok : WOk M x') (hcm : m'.calls ≤ M) (hcx : x'.calls ≤ M) (hnm : 0 < m'.stores.length) (hnx : 0 < x'.stores.length) : WTwo w2 b F1 M c G1 m' x' ∧ But (X ++ Y) w w2 ∧ ∀ i ∈ F1 ++ G1, i ∈ X ++ Y ∨ w.heap.size ≤ i := by
  have hF1 : ∀ i ∈ F1, i ∉ Y := fun i hi hg => by
    rcases h3 i hi with e | e
    · exact h.sep i e hg
    · have := h.r.lt i hg
      have := hA.size
      omega
  refine ⟨⟨h1.but k2 hF1, k1, hok, fun i hi hg => ?_, hcm, hcx, hnm, hnx⟩, ?_, fun i hi => ?_⟩
  · rcases k3 i hg with e | e
    · exact hF1 i hi e
    · have := h1.lt i hi
      omega
  · exact ((But.of_below (F := X ++ Y) hA).trans h2 fun i hi => .inl (List.mem_append.2 (.inl hi))).trans k2 fun i hi => .inl (List.mem_append.2 (.inr hi))
  · have z1 := hA.size
    have z2 := h2.size
    rcases List.mem_append.1 hi with hi | hi
    · rcases h3 i hi with e | e
      · exact .inl (List.mem_append.2 (.inl e))
      · exact .inr (by omega)
    · rcases k3 i hi with e | e
      · exact .inl (List.mem_append.2 (.inr e))
      · exact .inr (by omega)
theorem WTo.done (h : WTwo w b X N c Y m x) (hA : Below w.heap.size w w0) (t1 : WldTo b X M m' w0 w1) (t2 : RWTo c Y x' w1 w2) (hok : WOk M x') (hcm : m'.calls ≤ M) (hcx : x'.calls ≤ M) (hnm : 0 < m'.stores.length) (hnx : 0 < x'.stores.length) : WTo b X M c Y m' x' w w2 := by
  obtain ⟨F1, h1, h2, h3⟩ := t1
  obtain ⟨G1, k1, k2, k3⟩ := t2
  exact ⟨F1, G1, WTo.doneX h hA h1 h2 h3 k1 k2 k3 hok hcm hcx hnm hnx⟩
theorem WTo.done' (h : WTwo w b X N c Y m x) (hA : Below w.heap.size w w0) (t1 : RWTo c Y x' w0 w1) (t2 : WldTo b X M m' w1 w2) (hok : WOk M x') (hcm : m'.calls ≤ M) (hcx : x'.calls ≤ M) (hnm : 0 < m'.stores.length) (hnx : 0 < x'.stores.length) : WTo b X M c Y m' x' w w2 := by
  obtain ⟨G1, k1, k2, k3⟩ := t1
  obtain ⟨F1, h1, h2, h3⟩ := t2
  have hG1 : ∀ i ∈ G1, i ∉ X := fun i hi hg => by
    rcases k3 i hi with e | e
    · exact h.sep i hg e
    · have := h.p.lt i hg
      have := hA.size
      omega
  refine ⟨F1, G1, ⟨h1, k1.but h2 hG1, hok, fun i hi hg => ?_, hcm, hcx, hnm, hnx⟩, ?_, fun i hi => ?_⟩
  · rcases h3 i hi with e | e
    · exact hG1 i hg e
    · have := k1.lt i hg
      omega
  · exact ((But.of_below (F := X ++ Y) hA).trans k2 fun i hi => .inl (List.mem_append.2 (.inr hi))).trans h2 fun i hi => .inl (List.mem_append.2 (.inl hi))
  · have z1 := hA.size
    have z2 := k2.size
    rcases List.mem_append.1 hi with hi | hi
    · rcases h3 i hi with e | e
      · exact .inl (List.mem_append.2 (.inl e))
      · exact .inr (by omega)
    · rcases k3 i hi with e | e
      · exact .inl (List.mem_append.2 (.inr e))
      · exact .inr (by omega)
/-- What a call leaves, from a base on. -/
theorem WTo.step {B : Nat} (hlo : ∀ i ∈ X ++ Y, B ≤ i) (k : WTo b X M c Y m x w w1) (hB : B ≤ w.heap.size) : ∃ X1 Y1, WTwo w1 b X1 M c Y1 m x ∧ (∀ i ∈ X1 ++ Y1, B ≤ i) ∧ Below B w w1 ∧ But (X ++ Y) w w1 ∧ (∀ i ∈ X1 ++ Y1, i ∈ X ++ Y ∨ w.heap.size ≤ i) := by
  obtain ⟨F1, G1, k1, k2, k3⟩ := k
  refine ⟨F1, G1, k1, fun i hi => ?_, k2.below hB hlo, k2, k3⟩
  rcases k3 i hi with e | e
  · exact hlo i e
  · omega
end
end Go.Proofs.YtfkonpmnclknaaaGreat
