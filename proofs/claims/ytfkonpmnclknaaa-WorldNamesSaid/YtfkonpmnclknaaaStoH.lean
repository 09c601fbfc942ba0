/-
  Crash.
-/
import Derived.Test.YtfkonpmnclknaaaStoG
namespace Go.Proofs.Ytfkonpmnclknaaa
open Go.RowKit Go.Maps
attribute [local go_sem ↓] Go.wp_at_zero Go.wp_at_succ

def intCell (i : Int) : List Value := [.int .i64 i]
abbrev IntsAt := RowAt 1 intCell
/-- A text's first k bytes. -/
def cutB (d : ByteArray) (k : Int) : ByteArray := d.extract 0 (min k (d.size : Int)).toNat
def keptO (g : List Ob) (x : Wr) (k : Int) : List Ob := if k < 0 then g else if x.del = true then delO g x.name else putO g (x.name, cutB x.data k)
def crashGo : List Wr → List Int → List Ob → List Ob
  | [], _, g => g
  | _ :: _, [], g => g
  | x :: ws, k :: ks, g => crashGo ws ks (keptO g x k)
def Sto.crash (s : Sto) (keep : List Int) : Sto := { s with good := crashGo s.writes keep s.good, seen := crashGo s.writes keep s.good, writes := [] }

theorem crashGo_none : ∀ (ws : List Wr) (g : List Ob), crashGo ws [] g = g
  | [], _ => rfl
  | _ :: _, _ => rfl
theorem cutB_size (d : ByteArray) (k : Int) : (cutB d k).size ≤ d.size := by
  unfold cutB
  rw [ByteArray.size_extract]
  omega
theorem keptO_len (g : List Ob) (x : Wr) (k : Int) : (keptO g x k).length ≤ g.length + 1 := by
  unfold keptO
  split
  · omega
  · split
    · exact Nat.le_trans (delO_len _ _) (Nat.le_succ _)
    · exact putO_len _ _
theorem keptO_ok {g : List Ob} {x : Wr} {k : Int} (hg : ∀ p ∈ g, OkO p) (hx : OkO (x.name, x.data)) : ∀ p ∈ keptO g x k, OkO p := by
  unfold keptO
  split
  · exact hg
  · split
    · exact fun p hp => hg p (delO_mem.1 hp).1
    · intro p hp
      rcases putO_mem.1 hp with rfl | ⟨hp, _⟩
      · exact ⟨hx.1, Nat.le_trans (cutB_size _ _) hx.2⟩
      · exact hg p hp
theorem crashGo_len : ∀ (ws : List Wr) (ks : List Int) (g : List Ob), (crashGo ws ks g).length ≤ g.length + ws.length
  | [], _, g => Nat.le_refl _
  | _ :: _, [], g => Nat.le_add_right _ _
  | x :: ws, k :: ks, g => by
    have h1 := crashGo_len ws ks (keptO g x k)
    have h2 := keptO_len g x k
    simp only [crashGo, List.length_cons]
    omega
theorem crashGo_ok : ∀ {ws : List Wr} {ks : List Int} {g : List Ob}, (∀ p ∈ g, OkO p) → (∀ x ∈ ws, OkO (x.name, x.data)) → ∀ p ∈ crashGo ws ks g, OkO p
  | [], _, _, h, _ => h
  | _ :: _, [], _, h, _ => h
  | x :: ws, k :: ks, g, h, hw => crashGo_ok (ws := ws) (ks := ks) (keptO_ok h (hw x List.mem_cons_self)) fun y hy => hw y (List.mem_cons_of_mem _ hy)
theorem crashGo_drop {ws : List Wr} {ks : List Int} {g : List Ob} {j : Nat} {x : Wr} {k : Int} (hx : ws[j]? = some x) (hk : ks[j]? = some k) : crashGo (ws.drop j) (ks.drop j) g = crashGo (ws.drop (j + 1)) (ks.drop (j + 1)) (keptO g x k) := by
  rw [drop_cons hx, drop_cons hk]
  rfl

/-- A row of cells is no map. -/
theorem RowAt.butMap {α : Type} {k : Nat} {enc : α → List Value} {w w' : World} {B n g : Nat} {A : Option Addr} {l : List α} (h : RowAt k enc w B A n l) (hb : But [g] w w') (hg : ∃ es clock, w.heap[g]? = some (.map es clock)) : RowAt k enc w' B A n l := by
  refine ⟨h.1, h.2.1, fun hn => ?_⟩
  obtain ⟨b, off, e, hB, hc⟩ := h.2.2 hn
  refine ⟨b, off, e, hB, fun i x hx j v hv => ?_⟩
  have h1 := hc i x hx j v hv
  have hbg : b ≠ g := fun e => by
    obtain ⟨es, clock, hm⟩ := hg
    subst e
    simp [World.cell?, hm] at h1
  have hbl : b < w.heap.size := by
    refine Nat.lt_of_not_le fun hle => ?_
    have : w.heap[b]? = none := Array.getElem?_eq_none hle
    simp [World.cell?, this] at h1
  rw [← h1]
  exact World.cell?_of_block (a := ⟨b, off + i * k + j, none⟩) (hb.block b hbl (by simpa using hbg))
theorem RowAt.int {w : World} {B n : Nat} {A : Option Addr} {l : List Int} (h : IntsAt w B A n l) {i : Nat} (hi : i < n) : ∃ b off k, A = some ⟨b, off, none⟩ ∧ b < B ∧ l[i]? = some k ∧ w.cell? ⟨b, off + i, none⟩ = some (.int .i64 k) := by
  obtain ⟨hl, _, hc⟩ := h
  obtain ⟨b, off, e, hb, hc⟩ := hc (by omega)
  have hx : l[i]? = some (l[i]'(by omega)) := List.getElem?_eq_getElem (by omega)
  exact ⟨b, off, _, e, hb, hx, by simpa using hc i _ hx 0 _ rfl⟩
theorem RowAt.wr {w : World} {B n : Nat} {A : Option Addr} {l : List Wr} (h : RowAt 3 Wr.cells w B A n l) {i : Nat} (hi : i < n) : ∃ b off x, A = some ⟨b, off, none⟩ ∧ b < B ∧ l[i]? = some x ∧ w.cell? ⟨b, off + i * 3, none⟩ = some (.string x.name) ∧ w.cell? ⟨b, off + i * 3 + 1, none⟩ = some (.string x.data) ∧ w.cell? ⟨b, off + i * 3 + 2, none⟩ = some (.bool x.del) := by
  obtain ⟨hl, _, hc⟩ := h
  obtain ⟨b, off, e, hb, hc⟩ := hc (by omega)
  have hx : l[i]? = some (l[i]'(by omega)) := List.getElem?_eq_getElem (by omega)
  exact ⟨b, off, _, e, hb, hx, hc i _ hx 0 _ rfl, hc i _ hx 1 _ rfl, hc i _ hx 2 _ rfl⟩

set_option maxHeartbeats 4000000 in
set_option maxRecDepth 100000 in
theorem store_Crash (b : Nat) (F : List Nat) (N : Nat) (s : Sto) (A : Option Addr) (n c : Nat) (keep : List Int) (w : World) (h : StoAt w b F N s) (hk : IntsAt w w.heap.size A n keep) :
    Calls Try.prog 56 #[.pointer (some ⟨b, 0, none⟩), .slice A n c] w fun e w' => e = .returned (.int .i64 0) ∧ StoTo b F N (s.crash keep) w w' := by
  obtain ⟨gm, sm, V, rfl, h⟩ := h
  obtain ⟨A1, m, c1, rfl⟩ : ∃ A m c, V = .slice A m c := by obtain ⟨A, c, e⟩ := Owns.form h.own; exact ⟨A, _, c, e⟩
  have rw9 := Lib.hid (Owns.row (k := 3) (fun x : Wr => writeE.len x) h.own)
  have hm9 : m ≤ 1000000 := by have := rw9.out.1; have := h.len; have := h.cap; omega
  have hml : s.writes.length = m := rw9.out.1
  have hnl : keep.length = n := hk.1
  have hn9 := hk.2.1
  obtain ⟨c0, c1', c2, c3, c4, c5⟩ := h.box.cells
  have hh := Lib.hid h
  have hkr := Lib.hid hk
  replace hml := Lib.hid hml
  replace hnl := Lib.hid hnl
  clear h hk
  go_enter Try.func56, Try.ntmps56
  go_wp2_with fail
  clear c0 c1' c2 c3 c4 c5
  go_loopw [5, 6, 14] (fun _ _ i wr => ∃ (j : Nat) (g : List Ob), j ≤ m ∧ i = .int .i64 j ∧ MapAt wr gm (N + j) g ∧ (∀ p ∈ g, OkO p) ∧ Hid (crashGo (s.writes.drop j) (keep.drop j) g = crashGo s.writes keep s.good) ∧ But [gm] w wr) (fun _ _ i _ => m - (intOf i).toNat)
  case atStart => exact ⟨0, s.good, Nat.zero_le _, rfl, hh.out.good, hh.out.ng, rfl, But.refl _ _⟩
  case round =>
    obtain ⟨j, g, hj, rfl, hmp, hok, hgo, hbt⟩ := hrel
    obtain ⟨wp, rfl⟩ : ∃ x : World, x = wr := ⟨_, rfl⟩
    have hzp := hbt.size
    by_cases hlt : j < m
    · obtain ⟨b1, o1, x, rfl, hb1, hx, q0, q1, q2⟩ := (rw9.out.butMap hbt hh.out.good.heap).wr hlt
      have hox := hh.out.nw x (List.mem_of_getElem? hx)
      have hmem := List.mem_of_getElem? hx
      have hgo2 : Hid (∀ k : Int, keep[j]? = some k → crashGo (s.writes.drop (j + 1)) (keep.drop (j + 1)) (keptO g x k) = crashGo s.writes keep s.good) := fun k hk => by rw [← crashGo_drop hx hk]; exact hgo.out
      have nb := own_at hh.out.ap
      have hNj : N + (j + 1) ≤ 1000000000 := by have := hh.out.cap; omega
      replace hok := Lib.hid hok
      replace hox := Lib.hid hox
      replace hx := Lib.hid hx
      replace hmem := Lib.hid hmem
      by_cases hjn : j < n
      · obtain ⟨b2, o2, k, rfl, hb2, hk, p0⟩ := (hkr.out.butMap hbt hh.out.good.heap).int hjn
        have i1 : ¬ (n : Int) ≤ (j : Int) := by omega
        have hgo3 := Lib.hid (hgo2.out k hk)
        replace hk := Lib.hid hk
        clear hgo2
        have hbx := (hh.out.box.block (hbt.block b hh.out.box.lt (by simpa using nb.1)))
        obtain ⟨d0, _, _, _, _, _⟩ := hbx.cells
        have hlb : b < wp.heap.size := hbx.lt
        have hlg : gm < wp.heap.size := hmp.lt
        have hb2' : b2 < wp.heap.size := by omega
        have hbA : Below wp.heap.size wp (wp.alloc (.cells #[.string x.name, .string x.data, .bool x.del] 83)) := (Below.refl _ wp).alloc (Nat.le_refl _) _
        have mA := hmp.alloc (.cells #[.string x.name, .string x.data, .bool x.del] 83)
        replace nb := Lib.hid nb
        replace hbx := Lib.hid hbx
        have hnx : x.name.size ≤ maxLen := Nat.le_trans hox.out.1 (by decide)
        by_cases hk0 : k < 0
        · have hkk : keptO g x k = g := by unfold keptO; rw [if_pos hk0]
          rw [hkk] at hgo3
          clear hkk
          go_wp2_with fail
          go_roundw
          case rel => exact ⟨j + 1, g, by omega, by go_num, mA.more (by omega) hNj, hok.out, hgo3, hbt.trans (But.of_below hbA) (fun i hi => .inl hi)⟩
          case measure => simp [intOf]; omega
        · cases hdl : x.del
          · rw [hdl] at q2 hbA mA
            have hkk : keptO g x k = putO g (x.name, cutB x.data k) := by unfold keptO; rw [if_neg hk0, hdl]; rfl
            rw [hkk] at hgo3
            have hok4 := Lib.hid (keptO_ok (k := k) hok.out hox.out)
            rw [hkk] at hok4
            clear hkk
            have hcs : (cutB x.data k).size ≤ maxLen := Nat.le_trans (cutB_size _ _) (Nat.le_trans hox.out.2 (by decide))
            replace hdl := Lib.hid hdl
            go_upto_region 6 with fail
            have y0 := newCell wp #[.string x.name, .string x.data, .bool false] 83 (0, 0) 0
            have y1 := newCell wp #[.string x.name, .string x.data, .bool false] 83 (0, 0) 1
            have yz : (wp.alloc (.cells #[.string x.name, .string x.data, .bool false] 83)).heap.size = wp.heap.size + 1 := by simp
            have yb := (hbA.cell (p := ⟨b, 0, none⟩) hlb).trans d0
            have yk := (hbA.cell (p := ⟨b2, o2 + j, none⟩) hb2').trans p0
            generalize (wp.alloc (.cells #[.string x.name, .string x.data, .bool false] 83)) = wA at hbA mA y0 y1 yz yb yk ⊢
            (refine region_ext_tail 20 (wA.heap.size) (by kernel_rfl) (by kernel_rfl) ?_
             simp only [List.take_succ_cons, List.take_zero, List.drop_succ_cons, List.drop_zero]
             repeat (go_big_quiet_step (fail))
             refine wpQuiet_nil ?_
             intro w2 hw'
             have hbw2 := Ext.of hw'
             clear hw'
             obtain ⟨hcw2, hfw2⟩ := bcell hbw2; (try simp only [World.size_drew, World.cell?_drew, World.frozen?_drew, World.heap_drewN, World.cell?_drewN, World.frozen?_drewN] at hcw2 hfw2); have hzw2 := hbw2.size; (try simp at hzw2); (try have hlw2 := (by omega : w.heap.size < w2.heap.size)); (try have hmw2 := (by omega : w.heap.size + 1 < w2.heap.size)); (try have hnw2 := (by omega : w.heap.size + 1 + 1 < w2.heap.size)))
            have m2 := mA.below mA.lt hbw2
            go_wp2_with (at_mapUpdate; go_must (refine wpList_obs_put _ rfl _ _ _ rfl gm (N + j) g rfl m2 (by omega) x.name (cutB x.data k) rfl rfl hnx hcs ?_); intro w3 hm3 hg3)
            go_roundw
            case rel => exact ⟨j + 1, putO g (x.name, cutB x.data k), by omega, by go_num, hm3.more (by omega) hNj, hok4.out, hgo3, ((hbt.trans (But.of_below (F := []) hbA) (by simp)).trans (But.of_below (F := []) hbw2) (by simp)).trans (But.of_grown (F := [gm]) hg3 (by simp)) (fun i hi => .inl hi)⟩
            case measure => simp [intOf]; omega
          · rw [hdl] at q2 hbA mA
            have hkk : keptO g x k = delO g x.name := by unfold keptO; rw [if_neg hk0, hdl]; rfl
            rw [hkk] at hgo3
            clear hkk
            replace hdl := Lib.hid hdl
            go_upto_region 9 with fail
            have y0 := newCell wp #[.string x.name, .string x.data, .bool true] 83 (0, 0) 0
            have yz : (wp.alloc (.cells #[.string x.name, .string x.data, .bool true] 83)).heap.size = wp.heap.size + 1 := by simp
            have yb := (hbA.cell (p := ⟨b, 0, none⟩) hlb).trans d0
            generalize (wp.alloc (.cells #[.string x.name, .string x.data, .bool true] 83)) = wA at hbA mA y0 yz yb ⊢
            (refine region_ext_tail 7 (wA.heap.size) (by kernel_rfl) (by kernel_rfl) ?_
             simp only [List.take_succ_cons, List.take_zero, List.drop_succ_cons, List.drop_zero]
             repeat (go_big_quiet_step (fail))
             refine wpQuiet_nil ?_
             intro w2 hw'
             have hbw2 := Ext.of hw'
             clear hw'
             obtain ⟨hcw2, hfw2⟩ := bcell hbw2; (try simp only [World.size_drew, World.cell?_drew, World.frozen?_drew, World.heap_drewN, World.cell?_drewN, World.frozen?_drewN] at hcw2 hfw2); have hzw2 := hbw2.size; (try simp at hzw2); (try have hlw2 := (by omega : w.heap.size < w2.heap.size)); (try have hmw2 := (by omega : w.heap.size + 1 < w2.heap.size)); (try have hnw2 := (by omega : w.heap.size + 1 + 1 < w2.heap.size)))
            have m2 := mA.below mA.lt hbw2
            go_wp2_with (at_delete; go_must (refine wpList_obs_del _ rfl _ _ rfl gm (N + j) g rfl m2 x.name rfl hnx ?_); intro w3 hm3 hg3)
            go_roundw
            case rel => exact ⟨j + 1, delO g x.name, by omega, by go_num, hm3.more (by omega) hNj, (fun p hp => hok.out p (delO_mem.1 hp).1), hgo3, ((hbt.trans (But.of_below (F := []) hbA) (by simp)).trans (But.of_below (F := []) hbw2) (by simp)).trans (But.of_grown (F := [gm]) hg3 (by simp)) (fun i hi => .inl hi)⟩
            case measure => simp [intOf]; omega
      · have i1 : (n : Int) ≤ (j : Int) := by omega
        have hgo4 : Hid (crashGo (s.writes.drop (j + 1)) (keep.drop (j + 1)) g = crashGo s.writes keep s.good) := by
          unfold Hid
          have e1 : keep.drop j = [] := List.drop_eq_nil_of_le (by have := hnl.out; omega)
          have e2 : keep.drop (j + 1) = [] := List.drop_eq_nil_of_le (by have := hnl.out; omega)
          rw [← hgo.out, e1, e2, crashGo_none, crashGo_none]
        clear hgo2
        go_wp2_with fail
        go_roundw
        case rel => exact ⟨j + 1, g, by omega, by go_num, (hmp.alloc _).more (by omega) hNj, hok.out, hgo4, hbt.trans (But.of_below ((Below.refl _ _).alloc (Nat.le_refl _) _)) (fun i hi => .inl hi)⟩
        case measure => simp [intOf]; omega
    · obtain rfl : j = m := by omega
      have e1 : s.writes.drop j = [] := List.drop_eq_nil_of_le (by have := hml.out; omega)
      have hg9 : g = crashGo s.writes keep s.good := by rw [← hgo.out, e1]; rfl
      have hh1 := hh.out
      have hlen : g.length ≤ N := by rw [hg9]; exact Nat.le_trans (crashGo_len _ _ _) hh1.len
      have mt := hmp.tight hlen (by have := hh1.cap; omega)
      obtain ⟨a1, a2, a3, a4, a5, a6⟩ := own_at hh1.ap
      have hcl := maps_CloneS gm N g wp mt
      have hbx := hh1.box.block (hbt.block b hh1.box.lt (by simpa using a1))
      obtain ⟨d0, d1, d2, _, _, _⟩ := hbx.cells
      have hlb := hh1.box.lt
      replace hh1 := Lib.hid hh1
      go_wp2_with fail
      refine hcl.mono ?_
      rintro e w1 ⟨rfl, hm1, hz1, hb1⟩
      have m1 := mt.below mt.lt hb1
      have hbx1 := hbx.below hbx.lt hb1
      obtain ⟨g0, g1, g2, _, _, _⟩ := hbx1.cells
      have f1 := hbx1.frozen 1
      have f2 := hbx1.frozen 2
      have hfb := Lib.hid ((hbx1.set2 (.map (some wp.heap.size))).set1 (.slice none 0 0))
      have hlg : gm < wp.heap.size := mt.lt
      have hbb : But [gm] w w1 := hbt.trans (But.of_below (F := []) hb1) (by simp)
      replace hbx1 := Lib.hid hbx1
      replace hm1 := Lib.hid hm1
      replace m1 := Lib.hid m1
      clear d0 d1 d2 hbx
      go_wp2_with fail
      go_ret
      have hs := hh1.out
      have hcr : ∀ p ∈ g, OkO p := hok
      refine ⟨rfl, [b, gm, wp.heap.size], ⟨gm, wp.heap.size, .slice none 0 0, rfl, ?_⟩, ?_, ?_⟩
      · unfold Sto.crash
        rw [← hg9]
        exact
        { box := hfb.out
          good := (m1.out.setOther (fun e => a1 e.symm) _).setOther (fun e => a1 e.symm) _
          seen := (hm1.out.setOther (by simp; omega) _).setOther (by simp; omega) _
          own := Owns.nil_
          ap := nodup_own a1 (by omega) (by omega) (by simp [Value.ownBlock]) (by simp [Value.ownBlock]) (by simp [Value.ownBlock])
          ng := hcr, ns := hcr, nw := by simp, len := by simpa using hlen, cap := hs.cap, rf := hs.rf, rf9 := hs.rf9, rm9 := hs.rm9, rm := hs.rm }
      · exact ((hbb.more (by simp)).trans (But.of_set (F := [b]) _ (by simp)) (by simp)).trans (But.of_set (F := [b]) _ (by simp)) (by simp)
      · intro i hi
        simp at hi ⊢
        omega
end Go.Proofs.Ytfkonpmnclknaaa
