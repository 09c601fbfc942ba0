/-
  Del.
-/
import Derived.Test.YtfkonpmnclknaaaStoE
namespace Go.Proofs.Ytfkonpmnclknaaa
open Go.RowKit Go.Maps
attribute [local go_sem ↓] Go.wp_at_zero Go.wp_at_succ

def Sto.del (s : Sto) (n : ByteArray) : Sto × Int :=
  if (s.get n).2 = 0 then (if s.refNow = true then (s.tried, 53) else ({ s.tried with seen := delO s.seen n, writes := s.writes ++ [⟨n, ⟨#[]⟩, true⟩] }, 0)) else (s, (s.get n).2)

theorem get_none {s : Sto} {n : ByteArray} : (s.get n).2 = 0 ∨ (s.get n).2 = 5 ∨ (s.get n).2 = 51 := by
  unfold Sto.get
  split
  · exact .inr (.inr rfl)
  · split
    · exact .inr (.inl rfl)
    · exact .inl rfl
theorem get_some {s : Sto} {n : ByteArray} (h : (s.get n).2 = 0) : s.down = false ∧ ∃ d, lookO s.seen n = some d := by
  unfold Sto.get at h
  split at h
  · simp at h
  · rename_i hd
    split at h
    · simp at h
    · rename_i d e
      exact ⟨by simpa using hd, d, e⟩

set_option maxHeartbeats 4000000 in
set_option maxRecDepth 100000 in
theorem store_Del (b : Nat) (F : List Nat) (N : Nat) (s : Sto) (n : ByteArray) (hn : n.size ≤ maxLen) (hN : N + 1 ≤ 1000000) (w : World) (h : StoAt w b F N s) :
    Calls Try.prog 48 #[.pointer (some ⟨b, 0, none⟩), .string n] w fun e w' => e = .returned (.int .i64 (s.del n).2) ∧ StoTo b F (N + 1) (s.del n).1 w w' := by
  have hG := store_Get b F N s n hn w h
  have hsame : Hid (StoTo b F (N + 1) s w w) := (StoTo.same h (Below.refl _ _)).more (Nat.le_succ _) hN
  obtain ⟨gm, sm, V, rfl, h⟩ := h
  have hF := store_refused b gm sm N V s w h
  by_cases hz : (s.get n).2 = 0
  · rw [hz] at hG
    obtain ⟨d, hd⟩ := (get_some hz).2
    have hok : OkO (n, ⟨#[]⟩) := ⟨(h.ns _ (lookO_mem hd)).1, Nat.zero_le _⟩
    cases hrn : s.refNow
    · have hr : Hid (s.del n = ({ s.tried with seen := delO s.seen n, writes := s.writes ++ [⟨n, ⟨#[]⟩, true⟩] }, 0)) := by unfold Hid Sto.del; rw [if_pos hz, hrn]; rfl
      rw [hrn] at hF
      replace hz := Lib.hid hz
      replace hrn := Lib.hid hrn
      replace hd := Lib.hid hd
      replace hok := Lib.hid hok
      go_enter Try.func48, Try.ntmps48
      go_wp2_with fail
      refine hG.mono ?_
      rintro e w1 ⟨rfl, rfl⟩
      go_wp2_with fail
      refine hF.mono ?_
      rintro e w2 ⟨rfl, h2, hbt⟩
      have h2g : s.tried.good = s.good := tried_good s
      have h2s : s.tried.seen = s.seen := tried_seen s
      have h2w : s.tried.writes = s.writes := tried_writes s
      obtain ⟨_, c1, c2, _, _, _⟩ := h2.box.cells
      have ms := h2.seen
      rw [h2s] at ms
      have hns := h.ns
      replace h2g := Lib.hid h2g
      replace h2s := Lib.hid h2s
      replace h2w := Lib.hid h2w
      replace h2 := Lib.hid h2
      replace h := Lib.hid h
      replace hns := Lib.hid hns
      go_upto_region 7 with (at_delete; go_must (refine wpList_obs_del _ rfl _ _ rfl sm N s.seen rfl ms n rfl hn ?_); intro w3 hm3 hg3)
      have ok : ∀ p ∈ delO s.seen n, OkO p := fun p hp => hns.out p (delO_mem.1 hp).1
      have h3 := h2.out.seenTo (hm3.more (Nat.le_succ _) (by omega)) hg3 ok (Nat.le_succ _) hN
      obtain ⟨_, v1, _, _, _, _⟩ := h3.box.cells
      have nb := (own_at h3.ap).2.2.2.1
      have h3a := h3.alloc (.cells #[.string n, .string ⟨#[]⟩, .bool true] 83)
      have ho3 := h3a.own
      simp only [h2w.out] at ho3
      have hlw : s.writes.length ≤ 1000000000 := by have := h.out.len; have := h.out.cap; omega
      clear c1 c2
      go_wp2_with (at_builtin; go_must (refine Elem.wpList_one writeE rfl (.tmp 27) (.tmp 31) rfl (0) _ (s.writes) rfl _ _ (⟨n, ⟨#[]⟩, true⟩ : Wr) rfl (ho3) (fun j u hu => by rcases j with _ | _ | _ | j <;> simp [writeE, Wr.cells] at hu <;> subst hu <;> go_simp) (by first | omega | (simp; omega)) (by first | omega | (simp; try omega)) ?_); intro v4 w4 hown4 hg4 hat4; obtain ⟨A9, m9, c9, rfl⟩ : ∃ A m c, v4 = .slice A m c := (by obtain ⟨A, c, e⟩ := Owns.form hown4; exact ⟨A, _, c, e⟩); have hx4 := h3a.box.grown hg4 nb; have f4 := hx4.frozen 1; obtain ⟨_, g1, _, _, _, _⟩ := hx4.cells)
      have hfin := h3a.wrote (x := ⟨n, ⟨#[]⟩, true⟩) (by simp only [h2w.out]; exact hown4) hg4 hat4 hok.out (by simp only [h2w.out, h2g.out]; have := h.out.len; omega)
      simp only [h2w.out] at hfin
      have hbut : But (b :: gm :: sm :: V.ownBlock.toList) w1 (w4.setCell ⟨b, 1, none⟩ (.slice A9 m9 c9)) := by
        have e1 : But (b :: gm :: sm :: V.ownBlock.toList) w1 w3 := (hbt.more (by simp)).trans (But.of_grown (F := [sm]) hg3 (by simp)) (by simp)
        exact (e1.trans (But.of_below (F := []) ((Below.refl _ w3).alloc (Nat.le_refl _) _)) (by simp)).trans (But.wrote hg4) (fun i hi => .inl (by simp at hi ⊢; rcases hi with hi | hi; exact .inl hi; exact .inr (.inr (.inr hi))))
      have hnew := own_new hat4 (b := b) (gm := gm) (sm := sm)
      have hsz : w1.heap.size ≤ (w3.alloc (.cells #[.string n, .string ⟨#[]⟩, .bool true] 83)).heap.size := by have := hbt.size; have := hg3.size; simp; omega
      go_ret
      exact ⟨by rw [hr.out]; rfl, by rw [hr.out]; exact ⟨_, ⟨gm, sm, _, rfl, hfin⟩, hbut, fun i hi => (hnew i hi).imp id fun e => Nat.le_trans hsz e⟩⟩
    · have hr : Hid (s.del n = (s.tried, 53)) := by unfold Hid Sto.del; rw [if_pos hz, hrn]; rfl
      rw [hrn] at hF
      replace hz := Lib.hid hz
      replace hrn := Lib.hid hrn
      replace hd := Lib.hid hd
      replace h := Lib.hid h
      go_enter Try.func48, Try.ntmps48
      go_wp2_with fail
      refine hG.mono ?_
      rintro e w1 ⟨rfl, rfl⟩
      go_wp2_with fail
      refine hF.mono ?_
      rintro e w2 ⟨rfl, h2, hbt⟩
      go_wp2_with fail
      go_ret
      exact ⟨by rw [hr.out]; rfl, by rw [hr.out]; exact StoTo.more ⟨_, ⟨gm, sm, V, rfl, h2⟩, hbt.more (by simp), fun i hi => .inl hi⟩ (Nat.le_succ _) hN⟩
  · have hr : Hid (s.del n = (s, (s.get n).2)) := by unfold Hid Sto.del; rw [if_neg hz]
    clear hF h
    have hz2 : ((s.get n).2 == 0) = false := by simpa using hz
    replace hz := Lib.hid hz
    obtain ⟨z, hzz⟩ : ∃ z, z = (s.get n).2 := ⟨_, rfl⟩
    rw [← hzz] at hz2 hG
    replace hzz := Lib.hid hzz
    go_enter Try.func48, Try.ntmps48
    go_wp2_with fail
    refine hG.mono ?_
    rintro e w1 ⟨rfl, rfl⟩
    go_wp2_with fail
    go_ret
    exact ⟨by rw [hr.out, ← hzz.out]; rfl, by rw [hr.out]; exact hsame.out⟩
end Go.Proofs.Ytfkonpmnclknaaa
