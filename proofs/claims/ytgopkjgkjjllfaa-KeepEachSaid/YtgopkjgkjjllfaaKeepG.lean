/-
  The walk of KeepTells; the contract of spoil.
-/
import Derived.Test.YtgopkjgkjjllfaaKeepF
namespace Go.Proofs.Ytgopkjgkjjllfaa
open Go.RowKit

set_option maxHeartbeats 400000 in
theorem spoil_any (v : Value) (n : Nat) (xs : List Value) (B : Nat) (w : World) (h : w.ownsRow B 39 3 v n xs) :
    Calls Try.prog 17 #[v] w fun e w' => e = .returned (.tuple #[]) ∧ w.grownBy w' v.ownBlock := by
  rcases h.2 with ⟨rfl, rfl⟩ | ⟨g, cap, cur, rfl, hg, hh, hnc, hcm, _⟩
  · go_enter Try.func17, Try.ntmps17
    go_wp2
    go_loopw [2] (fun i wr => i = .int .i64 0 ∧ w.grownBy wr none) (fun _ _ => 0)
    case atStart => exact ⟨rfl, World.grownBy.refl _ _⟩
    case round =>
      obtain ⟨rfl, hw⟩ := hrel
      go_wp2
      go_end0
      exact ⟨rfl, hw⟩
  · have hn : n ≤ 9223372036854775807 := by simp only [maxLen] at hcm; omega
    clear hh hnc hcm
    go_enter Try.func17, Try.ntmps17
    go_wp2
    go_loopw [2] (fun i wr => ∃ k : Nat, ∃ ys : List Value, k ≤ n ∧ i = .int .i64 k ∧ wr.ownsRow B 39 3 (.slice (some ⟨g, 0, none⟩) n cap) n ys ∧ w.grownBy wr (some g)) (fun i _ => n - (intOf i).toNat)
    case atStart => exact ⟨0, xs, Nat.zero_le _, rfl, h, World.grownBy.refl _ _⟩
    case round =>
      obtain ⟨k, ys, hk, rfl, ho, hw⟩ := hrel
      by_cases hlt : k < n
      · have hc := ho.cellAt (k * 3) (by omega)
        obtain ⟨x, hx⟩ := getElem_some (l := ys) (i := k * 3) (by have := ho.1; omega)
        rw [hx] at hc
        have hf := ho.frozenAt (k * 3)
        have hst := ho.stored (k * 3) (.int .i64 (-7))
        replace hst := Lib.hid hst
        clear hx
        go_wp2
        go_roundw
        case rel => exact ⟨k + 1, _, by omega, by go_num, hst.out.1, hw.trans hst.out.2⟩
        case measure => simp [intOf]; omega
      · go_wp2
        go_end0
        exact ⟨rfl, hw⟩

theorem Two.spoilt {w w' : World} {B : Nat} {a b : Value} {x y : List Snap} (h : Two w B a b x y) (hg : w.grownBy w' a.ownBlock) : SnapsOwn w' B b y :=
  h.2.1.grown hg (h.2.2.elim (fun h3 => by rw [h3]; cases b.ownBlock <;> simp) fun h3 => .inr (Ne.symm h3))

theorem ref22_Same_self (A A' : Option Addr) (n n' c c' : Nat) (l : List Snap) (w : World) (h : SnapsAt w w.heap.size A n l) (h' : SnapsAt w w.heap.size A' n' l) :
    Calls Try.prog 16 #[.slice A n c, .slice A' n' c'] w fun e w' => e = .returned (.bool true) ∧ Below w.heap.size w w' :=
  (ref22_Same A A' n n' c c' l l w h h').mono fun e w' ⟨he, hb⟩ => ⟨by rw [he]; simp [sameL], hb⟩

set_option maxHeartbeats 1000000 in
theorem keepTells_walk (A : Option Addr) (n c : Nat) (l : List Snap) (r : Rule) (w : World) (h : SnapsAt w w.heap.size A n l) (h2 : r.last ≤ 9223372036854775807) (h3 : r.within ≤ 9223372036854775807) :
    Calls Try.prog 4 #[.slice A n c, r.agg] w fun e w' => e = .returned (.bool true) ∧ Below w.heap.size w w' := by
  obtain ⟨p, q, d⟩ := r
  unfold Rule.agg
  simp only at h2 h3
  by_cases h1 : 100 < n
  · go_enter Try.func4, Try.ntmps4
    go_wp2_with (go_at_call 13; refine (awake_any _).mono ?_; rintro e w1 ⟨rfl, hbw1⟩; obtain ⟨hcw1, hfw1⟩ := bcell hbw1; (try simp only [World.size_drew, World.cell?_drew, World.frozen?_drew, World.heap_drewN, World.cell?_drewN, World.frozen?_drewN] at hcw1 hfw1); have hzw1 := hbw1.size; (try simp at hzw1); (try have hlw1 := (by omega : w.heap.size < w1.heap.size)); (try have hmw1 := (by omega : w.heap.size + 1 < w1.heap.size)); (try have hnw1 := (by omega : w.heap.size + 1 + 1 < w1.heap.size)))
    go_ret
    exact ⟨rfl, (by repeat (first | exact Below.refl _ _ | assumption | refine Below.drew ?_ | refine below_drewN ?_ _ | refine Below.alloc ?_ (by first | omega | (simp; try omega)) _ | refine Below.setCell ?_ (by first | omega | (simp; try omega)) _ | (refine Below.trans ?_ (Below.mono (by assumption) (by first | omega | (simp; try omega))))))⟩
  · obtain ⟨K, G, z, hch⟩ : ∃ K G z, choose l ⟨p, q, d⟩ = (K, G, z) := ⟨_, _, _, rfl⟩
    replace hch := Lib.hid hch
    have hsame : ∀ x : List Snap, sameL x x = true := fun x => by simp [sameL]
    replace hsame := Lib.hid hsame
    go_enter Try.func4, Try.ntmps4
    go_wp2_with (at_builtin; go_must (refine wpList_append_snaps rfl (.tmp 17) (.tmp 18) rfl (w.heap.size + 1) (.slice (some ⟨w.heap.size + 1, 0, none⟩) 0 0) [] rfl A n c l rfl (Owns.empty (w.alloc (.cells #[.int .i64 p, .int .i64 q, .int .i64 d] 25)) (by simp) (Nat.le_refl _)) w.heap.size (h.below (by repeat (first | exact Below.refl _ _ | assumption | refine Below.drew ?_ | refine below_drewN ?_ _ | refine Below.alloc ?_ (by first | omega | (simp; try omega)) _ | refine Below.setCell ?_ (by first | omega | (simp; try omega)) _ | (refine Below.trans ?_ (Below.mono (by assumption) (by first | omega | (simp; try omega))))))) (by simp; omega) (by first | omega | (simp; try omega)) ?_; intro v' w1 hown hg hat))
    have hbw1 : Below (w.heap.size + 1) (w.alloc (.cells #[.int .i64 p, .int .i64 q, .int .i64 d] 25)) w1 :=
      Below.own (k := 3) (enc := Snap.cells) (by repeat (first | exact Below.refl _ _ | assumption | refine Below.drew ?_ | refine below_drewN ?_ _ | refine Below.alloc ?_ (by first | omega | (simp; try omega)) _ | refine Below.setCell ?_ (by first | omega | (simp; try omega)) _ | (refine Below.trans ?_ (Below.mono (by assumption) (by first | omega | (simp; try omega)))))) (Owns.empty (w.alloc (.cells #[.int .i64 p, .int .i64 q, .int .i64 d] 25)) (by simp) (Nat.le_refl _)) (by first | omega | (simp; try omega)) hg
    have hz1 := hbw1.size
    (try simp at hz1)
    rw [List.nil_append] at hown
    obtain ⟨A', c', rfl⟩ := hown.form
    have hin := hown.row Snap.len
    have b0 : ∀ o, w1.cell? ⟨w.heap.size, o, none⟩ = (w.alloc (.cells #[.int .i64 p, .int .i64 q, .int .i64 d] 25)).cell? ⟨w.heap.size, o, none⟩ := fun o => hbw1.cell (p := ⟨w.heap.size, o, none⟩) (by simp)
    have hbw : Below w.heap.size w w1 := (by repeat (first | exact Below.refl _ _ | assumption | refine Below.drew ?_ | refine below_drewN ?_ _ | refine Below.alloc ?_ (by first | omega | (simp; try omega)) _ | refine Below.setCell ?_ (by first | omega | (simp; try omega)) _ | (refine Below.trans ?_ (Below.mono (by assumption) (by first | omega | (simp; try omega))))))
    have hlw1 : w.heap.size < w1.heap.size := by omega
    clear hg hat hown
    go_loopw [6] (fun i wr => ∃ k : Nat, k ≤ 2 ∧ i = .int .i64 k ∧ Below w1.heap.size w1 wr) (fun i _ => 2 - (intOf i).toNat)
    case atStart => exact ⟨0, by omega, rfl, Below.refl _ _⟩
    case round =>
      obtain ⟨k, hk, rfl, hbr⟩ := hrel
      have hsr := hbr.size
      have b1 : ∀ o, wr.cell? ⟨w.heap.size, o, none⟩ = w1.cell? ⟨w.heap.size, o, none⟩ := fun o => hbr.cell (p := ⟨w.heap.size, o, none⟩) hlw1
      have hin1 := hin.to hbr
      have h1 := h.to (hbw.trans (hbr.mono (by omega)))
      by_cases hlt : k < 2
      · have e1 := hsame.out K
        have e2 := hsame.out G
        have hzz : ((z : Int) != z) = false := by simp
        go_wp2_with fail
        refine (keep_Choose' (r := ⟨p, q, d⟩) hin1 h2 h3 hch.out).mono ?_
        rintro e w2 ⟨A1, c1, A2, c2, rfl, t2, _, _, hb2⟩
        have hs2 := hb2.size
        have b2 : ∀ o, w2.cell? ⟨w.heap.size, o, none⟩ = wr.cell? ⟨w.heap.size, o, none⟩ := fun o => hb2.cell (p := ⟨w.heap.size, o, none⟩) (by show w.heap.size < _; omega)
        go_wp2_with fail
        refine (ref22_Choose' (r := ⟨p, q, d⟩) (h1.to hb2) hch.out).mono ?_
        rintro e w3 ⟨A3, c3, A4, c4, rfl, t3, _, _, hb3⟩
        have hs3 := hb3.size
        have t2 := t2.below hb3
        go_wp2_with fail
        refine (ref22_Same _ _ _ _ _ _ K K _ (t2.1.row Snap.len) (t3.1.row Snap.len)).mono ?_
        rintro e w4 ⟨rfl, hb4⟩
        have hs4 := hb4.size
        have t2 := t2.below hb4
        have t3 := t3.below hb4
        go_wp2_with fail
        refine (ref22_Same _ _ _ _ _ _ G G _ (t2.2.1.row Snap.len) (t3.2.1.row Snap.len)).mono ?_
        rintro e w5 ⟨rfl, hb5⟩
        have hs5 := hb5.size
        have t2 := t2.below hb5
        go_wp2_with fail
        refine (spoil_any _ _ _ _ _ t2.1).mono ?_
        rintro e w6 ⟨rfl, hg6⟩
        have hs6 := hg6.size
        have t6 := t2.spoilt hg6
        go_wp2_with fail
        refine (spoil_any _ _ _ _ _ t6).mono ?_
        rintro e w7 ⟨rfl, hg7⟩
        have hs7 := hg7.size
        have hb7 : Below w1.heap.size w1 w7 := Below.own (Below.own (by repeat (first | exact Below.refl _ _ | assumption | refine Below.drew ?_ | refine below_drewN ?_ _ | refine Below.alloc ?_ (by first | omega | (simp; try omega)) _ | refine Below.setCell ?_ (by first | omega | (simp; try omega)) _ | (refine Below.trans ?_ (Below.mono (by assumption) (by first | omega | (simp; try omega)))))) (t2.1.base hsr) (by first | omega | (simp; try omega)) hg6) (t6.base hsr) (by first | omega | (simp; try omega)) hg7
        go_wp2
        go_roundw
        case rel => exact ⟨k + 1, by omega, by go_num, hb7⟩
        case measure => simp [intOf]; omega
      · have e1 := hsame.out l
        have hbb : Below w.heap.size w wr := (by repeat (first | exact Below.refl _ _ | assumption | refine Below.drew ?_ | refine below_drewN ?_ _ | refine Below.alloc ?_ (by first | omega | (simp; try omega)) _ | refine Below.setCell ?_ (by first | omega | (simp; try omega)) _ | (refine Below.trans ?_ (Below.mono (by assumption) (by first | omega | (simp; try omega))))))
        have hwr : w.heap.size < wr.heap.size := by omega
        go_wp2_with fail
        (refine wp_region_ext (wr.heap.size) (by kernel_rfl) (by kernel_rfl) ?_
         repeat (go_big_quiet_step ((first | (go_at_call 16; refine Calls.ext (Nat.le_refl _) (ref22_Same_self _ _ _ _ _ _ l _ (hin1.to (Ext.below _)) (h1.to (Ext.below _)))) | (go_at_call 18; refine Calls.ext (Nat.le_refl _) (keep_May ⟨p, q, d⟩ _)) | (go_at_call 19; refine Calls.ext (Nat.le_refl _) (ref22_May ⟨p, q, d⟩ _)) | (go_at_call 13; refine Calls.ext (Nat.le_refl _) (awake_any _)))))
         refine wpQuiet_nil ?_
         intro w8 hw'
         have hbw8 := Ext.of hw'
         clear hw'
         obtain ⟨hcw8, hfw8⟩ := bcell hbw8; (try simp only [World.size_drew, World.cell?_drew, World.frozen?_drew, World.heap_drewN, World.cell?_drewN, World.frozen?_drewN] at hcw8 hfw8); have hzw8 := hbw8.size; (try simp at hzw8); (try have hlw8 := (by omega : w.heap.size < w8.heap.size)); (try have hmw8 := (by omega : w.heap.size + 1 < w8.heap.size)); (try have hnw8 := (by omega : w.heap.size + 1 + 1 < w8.heap.size)))
        go_wp2
        go_ret
        exact ⟨ret_bool (by simp), (by repeat (first | exact Below.refl _ _ | assumption | refine Below.drew ?_ | refine below_drewN ?_ _ | refine Below.alloc ?_ (by first | omega | (simp; try omega)) _ | refine Below.setCell ?_ (by first | omega | (simp; try omega)) _ | (refine Below.trans ?_ (Below.mono (by assumption) (by first | omega | (simp; try omega))))))⟩

end Go.Proofs.Ytgopkjgkjjllfaa
