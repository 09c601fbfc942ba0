/-
  The contract of keep.Choose.
-/
import Derived.Test.YtgopkjgkjjllfaaKeepC
namespace Go.Proofs.Ytgopkjgkjjllfaa
open Go.RowKit

theorem mayL_len {l : List Snap} (h : mayL l = true) : l.length ≤ 32 := by simp [mayL] at h; exact h.2
theorem rising_time : ∀ {l : List Snap} {y : Int}, rising y l = true → ∀ s ∈ l, 0 ≤ s.time ∧ s.time ≤ 1099511627776
  | [], _, _ => by simp
  | s :: l, y, h => by
    simp [rising] at h
    intro t ht
    simp at ht
    rcases ht with rfl | ht
    · have := h.1.1; simp [mayOne] at this; omega
    · exact rising_time h.2 t ht
theorem mayL_time {l : List Snap} (h : mayL l = true) : ∀ s ∈ l, 0 ≤ s.time ∧ s.time ≤ 1099511627776 := by simp [mayL] at h; exact rising_time h.1

set_option maxHeartbeats 1000000 in
theorem keep_Choose (A : Option Addr) (n c : Nat) (l : List Snap) (w : World) (h : SnapsAt w w.heap.size A n l) (r : Rule) (h2 : r.last ≤ 9223372036854775807) (h3 : r.within ≤ 9223372036854775807) :
    Calls Try.prog 14 #[.slice A n c, r.agg] w fun e w' => ∃ a b, e = .returned (.tuple #[a, b, .int .i64 (choose l r).2.2]) ∧ Two w' w.heap.size a b (choose l r).1 (choose l r).2.1 ∧ Below w.heap.size w w' := by
  have hn := h.2.1
  have hl := Lib.hid h.1
  obtain ⟨p, q, d⟩ := r
  unfold Rule.agg
  simp only at h2 h3
  cases hm : mayL l
  · go_enter Try.func14, Try.ntmps14
    go_wp2_with (go_at_call 21; refine (snap_May A n c l _ (h.to (by repeat (first | exact Below.refl _ _ | assumption | refine Below.drew ?_ | refine below_drewN ?_ _ | refine Below.alloc ?_ (by first | omega | (simp; try omega)) _ | refine Below.setCell ?_ (by first | omega | (simp; try omega)) _ | (refine Below.trans ?_ (Below.mono (by assumption) (by first | omega | (simp; try omega)))))))).mono ?_; rintro e w1 ⟨rfl, hbw1⟩; obtain ⟨hcw1, hfw1⟩ := bcell hbw1; (try simp only [World.size_drew, World.cell?_drew, World.frozen?_drew, World.heap_drewN, World.cell?_drewN, World.frozen?_drewN] at hcw1 hfw1); have hzw1 := hbw1.size; (try simp at hzw1); (try have hlw1 := (by omega : w.heap.size < w1.heap.size)); (try have hmw1 := (by omega : w.heap.size + 1 < w1.heap.size)); (try have hnw1 := (by omega : w.heap.size + 1 + 1 < w1.heap.size)))
    go_ret3
    exact ⟨.slice none 0 0, .slice none 0 0, by simp [choose, hm], by simp [choose, hm, Two.nils], (by repeat (first | exact Below.refl _ _ | assumption | refine Below.drew ?_ | refine below_drewN ?_ _ | refine Below.alloc ?_ (by first | omega | (simp; try omega)) _ | refine Below.setCell ?_ (by first | omega | (simp; try omega)) _ | (refine Below.trans ?_ (Below.mono (by assumption) (by first | omega | (simp; try omega))))))⟩
  · cases hmr : mayRule ⟨p, q, d⟩
    · go_enter Try.func14, Try.ntmps14
      go_wp2_with (first | (go_at_call 21; refine (snap_May A n c l _ (h.to (by repeat (first | exact Below.refl _ _ | assumption | refine Below.drew ?_ | refine below_drewN ?_ _ | refine Below.alloc ?_ (by first | omega | (simp; try omega)) _ | refine Below.setCell ?_ (by first | omega | (simp; try omega)) _ | (refine Below.trans ?_ (Below.mono (by assumption) (by first | omega | (simp; try omega)))))))).mono ?_; rintro e w1 ⟨rfl, hbw1⟩; obtain ⟨hcw1, hfw1⟩ := bcell hbw1; (try simp only [World.size_drew, World.cell?_drew, World.frozen?_drew, World.heap_drewN, World.cell?_drewN, World.frozen?_drewN] at hcw1 hfw1); have hzw1 := hbw1.size; (try simp at hzw1); (try have hlw1 := (by omega : w.heap.size < w1.heap.size)); (try have hmw1 := (by omega : w.heap.size + 1 < w1.heap.size)); (try have hnw1 := (by omega : w.heap.size + 1 + 1 < w1.heap.size))) | (go_at_call 18; refine (keep_May ⟨p, q, d⟩ _).mono ?_; rintro e w2 ⟨rfl, hbw2⟩; obtain ⟨hcw2, hfw2⟩ := bcell hbw2; (try simp only [World.size_drew, World.cell?_drew, World.frozen?_drew, World.heap_drewN, World.cell?_drewN, World.frozen?_drewN] at hcw2 hfw2); have hzw2 := hbw2.size; (try simp at hzw2); (try have hlw2 := (by omega : w.heap.size < w2.heap.size)); (try have hmw2 := (by omega : w.heap.size + 1 < w2.heap.size)); (try have hnw2 := (by omega : w.heap.size + 1 + 1 < w2.heap.size))))
      go_ret3
      exact ⟨.slice none 0 0, .slice none 0 0, by simp [choose, hm, hmr], by simp [choose, hm, hmr, Two.nils], (by repeat (first | exact Below.refl _ _ | assumption | refine Below.drew ?_ | refine below_drewN ?_ _ | refine Below.alloc ?_ (by first | omega | (simp; try omega)) _ | refine Below.setCell ?_ (by first | omega | (simp; try omega)) _ | (refine Below.trans ?_ (Below.mono (by assumption) (by first | omega | (simp; try omega))))))⟩
    · have ht : ∀ s ∈ l, s.time ≤ 9223372036854775807 := fun s hs => by have := (mayL_time hm s hs).2; omega
      by_cases hno : 0 < p ∧ (l.any fun s => decide (s.id = p)) = false
      · obtain ⟨hp, hany⟩ := hno
        go_enter Try.func14, Try.ntmps14
        go_wp2_with (first
          | (go_at_call 21; refine (snap_May A n c l _ (h.to (by repeat (first | exact Below.refl _ _ | assumption | refine Below.drew ?_ | refine below_drewN ?_ _ | refine Below.alloc ?_ (by first | omega | (simp; try omega)) _ | refine Below.setCell ?_ (by first | omega | (simp; try omega)) _ | (refine Below.trans ?_ (Below.mono (by assumption) (by first | omega | (simp; try omega)))))))).mono ?_; rintro e w1 ⟨rfl, hbw1⟩; obtain ⟨hcw1, hfw1⟩ := bcell hbw1; (try simp only [World.size_drew, World.cell?_drew, World.frozen?_drew, World.heap_drewN, World.cell?_drewN, World.frozen?_drewN] at hcw1 hfw1); have hzw1 := hbw1.size; (try simp at hzw1); (try have hlw1 := (by omega : w.heap.size < w1.heap.size)); (try have hmw1 := (by omega : w.heap.size + 1 < w1.heap.size)); (try have hnw1 := (by omega : w.heap.size + 1 + 1 < w1.heap.size)))
          | (go_at_call 18; refine (keep_May ⟨p, q, d⟩ _).mono ?_; rintro e w2 ⟨rfl, hbw2⟩; obtain ⟨hcw2, hfw2⟩ := bcell hbw2; (try simp only [World.size_drew, World.cell?_drew, World.frozen?_drew, World.heap_drewN, World.cell?_drewN, World.frozen?_drewN] at hcw2 hfw2); have hzw2 := hbw2.size; (try simp at hzw2); (try have hlw2 := (by omega : w.heap.size < w2.heap.size)); (try have hmw2 := (by omega : w.heap.size + 1 < w2.heap.size)); (try have hnw2 := (by omega : w.heap.size + 1 + 1 < w2.heap.size)))
          | (go_at_call 28; refine (containsFunc_snap A n c l _ (h.to (by repeat (first | exact Below.refl _ _ | assumption | refine Below.drew ?_ | refine below_drewN ?_ _ | refine Below.alloc ?_ (by first | omega | (simp; try omega)) _ | refine Below.setCell ?_ (by first | omega | (simp; try omega)) _ | (refine Below.trans ?_ (Below.mono (by assumption) (by first | omega | (simp; try omega))))))) _ _ (predFn_one ⟨p, q, d⟩ w.heap.size _ (by go_simp) (by first | omega | (simp; try omega)))).mono ?_; rintro e w3 ⟨rfl, hbw3⟩; obtain ⟨hcw3, hfw3⟩ := bcell hbw3; (try simp only [World.size_drew, World.cell?_drew, World.frozen?_drew, World.heap_drewN, World.cell?_drewN, World.frozen?_drewN] at hcw3 hfw3); have hzw3 := hbw3.size; (try simp at hzw3); (try have hlw3 := (by omega : w.heap.size < w3.heap.size)); (try have hmw3 := (by omega : w.heap.size + 1 < w3.heap.size)); (try have hnw3 := (by omega : w.heap.size + 1 + 1 < w3.heap.size))))
        go_ret3
        exact ⟨.slice none 0 0, .slice none 0 0, by simp [choose, hm, hmr, hp, hany], by simp [choose, hm, hmr, hp, hany, Two.nils], (by repeat (first | exact Below.refl _ _ | assumption | refine Below.drew ?_ | refine below_drewN ?_ _ | refine Below.alloc ?_ (by first | omega | (simp; try omega)) _ | refine Below.setCell ?_ (by first | omega | (simp; try omega)) _ | (refine Below.trans ?_ (Below.mono (by assumption) (by first | omega | (simp; try omega))))))⟩
      · have hch : Hid (choose l ⟨p, q, d⟩ = (keptFrom (goesB l ⟨p, q, d⟩) 0 l, goneFrom (goesB l ⟨p, q, d⟩) 0 l, 0)) := by
          unfold Hid choose
          rw [if_pos hm, if_pos hmr, if_neg]
          simp only [Bool.and_eq_true, decide_eq_true_eq, Bool.not_eq_true']
          exact hno
        have hno' : (0 < p ∧ (l.any fun s => decide (s.id = p)) = true) ∨ p ≤ 0 := by
          cases ha : l.any fun s => decide (s.id = p)
          · right; simp [ha] at hno; exact hno
          · by_cases hp : 0 < p
            · exact .inl ⟨hp, rfl⟩
            · exact .inr (by omega)
        replace ht := Lib.hid ht
        clear hno
        rcases hno' with ⟨hp, hany⟩ | hp
        all_goals
          go_enter Try.func14, Try.ntmps14
          go_wp2_with (first
            | (go_at_call 21; refine (snap_May A n c l _ (h.to (by repeat (first | exact Below.refl _ _ | assumption | refine Below.drew ?_ | refine below_drewN ?_ _ | refine Below.alloc ?_ (by first | omega | (simp; try omega)) _ | refine Below.setCell ?_ (by first | omega | (simp; try omega)) _ | (refine Below.trans ?_ (Below.mono (by assumption) (by first | omega | (simp; try omega)))))))).mono ?_; rintro e w1 ⟨rfl, hbw1⟩; obtain ⟨hcw1, hfw1⟩ := bcell hbw1; (try simp only [World.size_drew, World.cell?_drew, World.frozen?_drew, World.heap_drewN, World.cell?_drewN, World.frozen?_drewN] at hcw1 hfw1); have hzw1 := hbw1.size; (try simp at hzw1); (try have hlw1 := (by omega : w.heap.size < w1.heap.size)); (try have hmw1 := (by omega : w.heap.size + 1 < w1.heap.size)); (try have hnw1 := (by omega : w.heap.size + 1 + 1 < w1.heap.size)))
            | (go_at_call 18; refine (keep_May ⟨p, q, d⟩ _).mono ?_; rintro e w2 ⟨rfl, hbw2⟩; obtain ⟨hcw2, hfw2⟩ := bcell hbw2; (try simp only [World.size_drew, World.cell?_drew, World.frozen?_drew, World.heap_drewN, World.cell?_drewN, World.frozen?_drewN] at hcw2 hfw2); have hzw2 := hbw2.size; (try simp at hzw2); (try have hlw2 := (by omega : w.heap.size < w2.heap.size)); (try have hmw2 := (by omega : w.heap.size + 1 < w2.heap.size)); (try have hnw2 := (by omega : w.heap.size + 1 + 1 < w2.heap.size)))
            | (go_at_call 28; refine (containsFunc_snap A n c l _ (h.to (by repeat (first | exact Below.refl _ _ | assumption | refine Below.drew ?_ | refine below_drewN ?_ _ | refine Below.alloc ?_ (by first | omega | (simp; try omega)) _ | refine Below.setCell ?_ (by first | omega | (simp; try omega)) _ | (refine Below.trans ?_ (Below.mono (by assumption) (by first | omega | (simp; try omega))))))) _ _ (predFn_one ⟨p, q, d⟩ w.heap.size _ (by go_simp) (by first | omega | (simp; try omega)))).mono ?_; rintro e w3 ⟨rfl, hbw3⟩; obtain ⟨hcw3, hfw3⟩ := bcell hbw3; (try simp only [World.size_drew, World.cell?_drew, World.frozen?_drew, World.heap_drewN, World.cell?_drewN, World.frozen?_drewN] at hcw3 hfw3); have hzw3 := hbw3.size; (try simp at hzw3); (try have hlw3 := (by omega : w.heap.size < w3.heap.size)); (try have hmw3 := (by omega : w.heap.size + 1 < w3.heap.size)); (try have hnw3 := (by omega : w.heap.size + 1 + 1 < w3.heap.size)))
            | (go_at_call 30; refine (keep_goes A n c l _ (h.to (by repeat (first | exact Below.refl _ _ | assumption | refine Below.drew ?_ | refine below_drewN ?_ _ | refine Below.alloc ?_ (by first | omega | (simp; try omega)) _ | refine Below.setCell ?_ (by first | omega | (simp; try omega)) _ | (refine Below.trans ?_ (Below.mono (by assumption) (by first | omega | (simp; try omega))))))) ht.out ⟨p, q, d⟩ hmr h2 h3).mono ?_; rintro e w4 ⟨v, rfl, hg, hbw4⟩; obtain ⟨f, caps, rfl, hf, hg⟩ := hg; unfold IsFn at hf; replace hg := Lib.hid hg; obtain ⟨hcw4, hfw4⟩ := bcell hbw4; (try simp only [World.size_drew, World.cell?_drew, World.frozen?_drew, World.heap_drewN, World.cell?_drewN, World.frozen?_drewN] at hcw4 hfw4); have hzw4 := hbw4.size; (try simp at hzw4); (try have hlw4 := (by omega : w.heap.size < w4.heap.size)); (try have hmw4 := (by omega : w.heap.size + 1 < w4.heap.size)); (try have hnw4 := (by omega : w.heap.size + 1 + 1 < w4.heap.size))))
          have hbw5 : Below w.heap.size w w4 := (by repeat (first | exact Below.refl _ _ | assumption | refine Below.drew ?_ | refine below_drewN ?_ _ | refine Below.alloc ?_ (by first | omega | (simp; try omega)) _ | refine Below.setCell ?_ (by first | omega | (simp; try omega)) _ | (refine Below.trans ?_ (Below.mono (by assumption) (by first | omega | (simp; try omega))))))
          go_loopw [4, 5, 33] (fun a b i wr => ∃ k : Nat, ∃ X Y : List Snap, k ≤ n ∧ i = .int .i64 k ∧ Two wr w4.heap.size a b X Y ∧ X.length ≤ k ∧ Y.length ≤ k ∧ Below w4.heap.size w4 wr ∧
            Hid (keptFrom (goesB l ⟨p, q, d⟩) 0 l = X ++ keptFrom (goesB l ⟨p, q, d⟩) k (l.drop k)) ∧ Hid (goneFrom (goesB l ⟨p, q, d⟩) 0 l = Y ++ goneFrom (goesB l ⟨p, q, d⟩) k (l.drop k))) (fun _ _ i _ => n - (intOf i).toNat)
          case atStart => exact ⟨0, [], [], Nat.zero_le _, rfl, Two.nils, Nat.le_refl _, Nat.le_refl _, Below.refl _ _, rfl, rfl⟩
          case round =>
            obtain ⟨k, X, Y, hk, rfl, ht2, hX, hY, hbw, hr1, hr2⟩ := hrel
            have hn32 : n ≤ 32 := by have := hl.out; have := mayL_len hm; omega
            by_cases hlt : k < n
            · obtain ⟨b, off, s, rfl, hb1, hx, q0, q1, q2⟩ := ((h.below hbw5).below (hbw.mono hbw5.size)).snap hlt
              have hd := Lib.hid (drop_cons hx)
              clear hx
              have hs := hbw.size
              cases hq : goesB l ⟨p, q, d⟩ k
              · go_wp2_with fail
                go_simp
                refine (hg.out _ (by repeat (first | exact Below.refl _ _ | assumption | refine Below.drew ?_ | refine below_drewN ?_ _ | refine Below.alloc ?_ (by first | omega | (simp; try omega)) _ | refine Below.setCell ?_ (by first | omega | (simp; try omega)) _ | (refine Below.trans ?_ (Below.mono (by assumption) (by first | omega | (simp; try omega)))))) k hlt).mono ?_
                rintro e w6 ⟨rfl, hbw6⟩
                obtain ⟨hcw6, hfw6⟩ := bcell hbw6; (try simp only [World.size_drew, World.cell?_drew, World.frozen?_drew, World.heap_drewN, World.cell?_drewN, World.frozen?_drewN] at hcw6 hfw6); have hzw6 := hbw6.size; (try simp at hzw6); (try have hlw6 := (by omega : w.heap.size < w6.heap.size)); (try have hmw6 := (by omega : w.heap.size + 1 < w6.heap.size)); (try have hnw6 := (by omega : w.heap.size + 1 + 1 < w6.heap.size))
                have ht3 := ht2.below (w' := w6) (by repeat (first | exact Below.refl _ _ | assumption | refine Below.drew ?_ | refine below_drewN ?_ _ | refine Below.alloc ?_ (by first | omega | (simp; try omega)) _ | refine Below.setCell ?_ (by first | omega | (simp; try omega)) _ | (refine Below.trans ?_ (Below.mono (by assumption) (by first | omega | (simp; try omega))))))
                go_wp2_with (at_builtin; go_must (refine wpList_append_snap rfl (.tmp 45) (.tmp 47) rfl w4.heap.size u4 X rfl _ _ s rfl (ht3.1.alloc _) (cell_new _ _ _ _ _) (cell_new _ _ _ _ _) (cell_new _ _ _ _ _) (by omega) (by first | omega | (simp; try omega)) ?_; intro v' w' hown' hg' hat'; have hzw' := hg'.size; (try simp at hzw')))
                have ht4 := Two.left (ht3.alloc _) hown' hg' hat'
                go_roundw
                case rel => exact ⟨k + 1, X ++ [s], Y, by omega, by go_num, ht4, by simp; omega, by omega, Below.own (by repeat (first | exact Below.refl _ _ | assumption | refine Below.drew ?_ | refine below_drewN ?_ _ | refine Below.alloc ?_ (by first | omega | (simp; try omega)) _ | refine Below.setCell ?_ (by first | omega | (simp; try omega)) _ | (refine Below.trans ?_ (Below.mono (by assumption) (by first | omega | (simp; try omega)))))) (ht3.1.alloc _) (by first | omega | (simp; try omega)) hg', hr1.out.trans (kept_no hd.out hq X), hr2.out.trans (gone_no hd.out hq Y)⟩
                case measure => simp [intOf]; omega
              · go_wp2_with fail
                go_simp
                refine (hg.out _ (by repeat (first | exact Below.refl _ _ | assumption | refine Below.drew ?_ | refine below_drewN ?_ _ | refine Below.alloc ?_ (by first | omega | (simp; try omega)) _ | refine Below.setCell ?_ (by first | omega | (simp; try omega)) _ | (refine Below.trans ?_ (Below.mono (by assumption) (by first | omega | (simp; try omega)))))) k hlt).mono ?_
                rintro e w6 ⟨rfl, hbw6⟩
                obtain ⟨hcw6, hfw6⟩ := bcell hbw6; (try simp only [World.size_drew, World.cell?_drew, World.frozen?_drew, World.heap_drewN, World.cell?_drewN, World.frozen?_drewN] at hcw6 hfw6); have hzw6 := hbw6.size; (try simp at hzw6); (try have hlw6 := (by omega : w.heap.size < w6.heap.size)); (try have hmw6 := (by omega : w.heap.size + 1 < w6.heap.size)); (try have hnw6 := (by omega : w.heap.size + 1 + 1 < w6.heap.size))
                have ht3 := ht2.below (w' := w6) (by repeat (first | exact Below.refl _ _ | assumption | refine Below.drew ?_ | refine below_drewN ?_ _ | refine Below.alloc ?_ (by first | omega | (simp; try omega)) _ | refine Below.setCell ?_ (by first | omega | (simp; try omega)) _ | (refine Below.trans ?_ (Below.mono (by assumption) (by first | omega | (simp; try omega))))))
                go_wp2_with (at_builtin; go_must (refine wpList_append_snap rfl (.tmp 41) (.tmp 43) rfl w4.heap.size u5 Y rfl _ _ s rfl (ht3.2.1.alloc _) (cell_new _ _ _ _ _) (cell_new _ _ _ _ _) (cell_new _ _ _ _ _) (by omega) (by first | omega | (simp; try omega)) ?_; intro v' w' hown' hg' hat'; have hzw' := hg'.size; (try simp at hzw')))
                have ht4 := Two.right (ht3.alloc _) hown' hg' hat'
                go_roundw
                case rel => exact ⟨k + 1, X, Y ++ [s], by omega, by go_num, ht4, by omega, by simp; omega, Below.own (by repeat (first | exact Below.refl _ _ | assumption | refine Below.drew ?_ | refine below_drewN ?_ _ | refine Below.alloc ?_ (by first | omega | (simp; try omega)) _ | refine Below.setCell ?_ (by first | omega | (simp; try omega)) _ | (refine Below.trans ?_ (Below.mono (by assumption) (by first | omega | (simp; try omega)))))) (ht3.2.1.alloc _) (by first | omega | (simp; try omega)) hg', hr1.out.trans (kept_yes hd.out hq X), hr2.out.trans (gone_yes hd.out hq Y)⟩
                case measure => simp [intOf]; omega
            · go_wp2
              go_ret3
              refine ⟨u4, u5, by rw [hch.out]; rfl, ?_, (by repeat (first | exact Below.refl _ _ | assumption | refine Below.drew ?_ | refine below_drewN ?_ _ | refine Below.alloc ?_ (by first | omega | (simp; try omega)) _ | refine Below.setCell ?_ (by first | omega | (simp; try omega)) _ | (refine Below.trans ?_ (Below.mono (by assumption) (by first | omega | (simp; try omega))))))⟩
              have := hl.out
              rw [hch.out]
              have e1 := hr1.out
              have e2 := hr2.out
              rw [List.drop_eq_nil_of_le (by omega)] at e1 e2
              simp only [keptFrom, goneFrom, List.append_nil] at e1 e2
              rw [e1, e2]
              exact ht2.base hbw5.size
end Go.Proofs.Ytgopkjgkjjllfaa
