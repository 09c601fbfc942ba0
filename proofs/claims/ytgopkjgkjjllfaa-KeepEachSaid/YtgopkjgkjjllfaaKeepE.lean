/-
  The contracts of the reference's goes, Choose, Same of layer 22.
-/
import Derived.Test.YtgopkjgkjjllfaaKeepD
namespace Go.Proofs.Ytgopkjgkjjllfaa
open Go.RowKit

theorem newest_cons {l : List Snap} {s : Snap} (h : l[0]? = some s) (hs : 0 ≤ s.time) : newestOf l = l.foldl (fun m s => max m s.time) s.time := by
  cases l with
  | nil => simp at h
  | cons t r =>
    simp at h
    subst h
    simp only [newestOf, List.foldl_cons]
    congr 1
    omega
theorem goes_id {l : List Snap} {r : Rule} {i : Nat} (h : 0 < r.id) : goesB l r i = decide (idAt l i = r.id) := by rw [goesB, if_pos h]
theorem goes_last {l : List Snap} {r : Rule} {i : Nat} (h : ¬ 0 < r.id) (h' : 0 < r.last) : goesB l r i = decide ((i : Int) < (l.length : Int) - r.last) := by rw [goesB, if_neg h, if_pos h']
theorem goes_within {l : List Snap} {r : Rule} {i : Nat} (h : ¬ 0 < r.id) (h' : ¬ 0 < r.last) : goesB l r i = decide (timeAt l i < newestOf l - r.within) := by rw [goesB, if_neg h, if_neg h']
theorem idAt_eq {l : List Snap} {i : Nat} {s : Snap} (h : l[i]? = some s) : idAt l i = s.id := by unfold idAt; rw [h]
theorem timeAt_eq {l : List Snap} {i : Nat} {s : Snap} (h : l[i]? = some s) : timeAt l i = s.time := by unfold timeAt; rw [h]

set_option maxHeartbeats 1000000 in
theorem ref22_goes (A : Option Addr) (n c : Nat) (l : List Snap) (w : World) (h : SnapsAt w w.heap.size A n l) (ht : ∀ s ∈ l, 0 ≤ s.time ∧ s.time ≤ 1099511627776) (r : Rule) (i : Nat) (hi : i < n) :
    Calls Try.prog 32 #[.slice A n c, .int .i64 i, r.agg] w fun e w' => e = .returned (.bool (goesB l r i)) ∧ Below w.heap.size w w' := by
  have hn := h.2.1
  have hl := Lib.hid h.1
  have hy := newest_le (fun s hs => by have := (ht s hs).2; omega) 0 (by omega)
  have hy0 := newest_ge l 0
  change newestOf l ≤ _ at hy
  change 0 ≤ newestOf l at hy0
  obtain ⟨b, off, s, rfl, hb1, hx, q0, q1, q2⟩ := h.snap hi
  have hts := ht s (List.mem_of_getElem? hx)
  have e1 := Lib.hid (idAt_eq hx)
  have e2 := Lib.hid (timeAt_eq hx)
  obtain ⟨s0, hx0, z0, z1, z2⟩ := h.snapAt (i := 0) (by omega)
  simp only [Nat.zero_mul, Nat.add_zero] at z0 z1 z2
  have hn0 := Lib.hid (newest_cons hx0 (ht s0 (List.mem_of_getElem? hx0)).1)
  have hts0 := ht s0 (List.mem_of_getElem? hx0)
  clear hx hx0
  replace ht := Lib.hid ht
  obtain ⟨a, p, d⟩ := r
  unfold Rule.agg
  by_cases ha : 0 < a
  · go_enter Try.func32, Try.ntmps32
    go_wp2
    go_quiet (fail)
    go_wp2
    go_ret
    exact ⟨ret_bool (by rw [goes_id ha, e1.out]; first | rfl | simp), (by repeat (first | exact Below.refl _ _ | assumption | refine Below.drew ?_ | refine below_drewN ?_ _ | refine Below.alloc ?_ (by first | omega | (simp; try omega)) _ | refine Below.setCell ?_ (by first | omega | (simp; try omega)) _ | (refine Below.trans ?_ (Below.mono (by assumption) (by first | omega | (simp; try omega))))))⟩
  · by_cases hp : 0 < p
    · go_enter Try.func32, Try.ntmps32
      go_wp2
      go_ret
      exact ⟨ret_bool (by rw [goes_last (by simp; omega) hp, hl.out, Bool.eq_iff_iff]; simp; omega), (by repeat (first | exact Below.refl _ _ | assumption | refine Below.drew ?_ | refine below_drewN ?_ _ | refine Below.alloc ?_ (by first | omega | (simp; try omega)) _ | refine Below.setCell ?_ (by first | omega | (simp; try omega)) _ | (refine Below.trans ?_ (Below.mono (by assumption) (by first | omega | (simp; try omega))))))⟩
    · go_enter Try.func32, Try.ntmps32
      go_wp2
      go_loopw [7, 8] (fun m i wr => ∃ k : Nat, ∃ y : Int, k ≤ n ∧ i = .int .i64 k ∧ m = .int .i64 y ∧ 0 ≤ y ∧ y ≤ 1099511627776 ∧ Hid (newestOf l = (l.drop k).foldl (fun m s => max m s.time) y) ∧ Below w.heap.size w wr ∧ wr.heap.size = w.heap.size + 1 ∧
        wr.cell? ⟨w.heap.size, 2, none⟩ = some (.int .i64 d)) (fun _ i _ => n - (intOf i).toNat)
      case atStart => exact ⟨0, s0.time, Nat.zero_le _, rfl, rfl, hts0.1, hts0.2, hn0, (by repeat (first | exact Below.refl _ _ | assumption | refine Below.drew ?_ | refine below_drewN ?_ _ | refine Below.alloc ?_ (by first | omega | (simp; try omega)) _ | refine Below.setCell ?_ (by first | omega | (simp; try omega)) _ | (refine Below.trans ?_ (Below.mono (by assumption) (by first | omega | (simp; try omega)))))), by simp, by go_simp⟩
      case round =>
        obtain ⟨k, y, hk, rfl, rfl, hy1, hy2, hr, hbw, hsz, c2⟩ := hrel
        replace hsz := Lib.hid hsz
        have hs := hbw.size
        by_cases hlt : k < n
        · obtain ⟨s', hx', q0', q1', q2'⟩ := (h.below hbw).snapAt hlt
          have hd := Lib.hid (drop_cons hx')
          have hts' := ht.out s' (List.mem_of_getElem? hx')
          clear hx'
          have e4 : (if y < s'.time then s'.time else y) = max y s'.time := by rw [Int.max_def]; split <;> split <;> omega
          have e5 : Hid ((l.drop k).foldl (fun m s => max m s.time) y = (l.drop (k + 1)).foldl (fun m s => max m s.time) (max y s'.time)) := by rw [Hid, hd.out]; rfl
          go_wp2
          go_roundw
          case rel => exact ⟨k + 1, max y s'.time, by omega, by go_num, rfl, by omega, by omega, hr.out.trans e5.out, hbw, hsz.out, c2⟩
          case measure => simp [intOf]; omega
        · have e6 : Hid (newestOf l = y) := by rw [Hid, hr.out, List.drop_eq_nil_of_le (by have := hl.out; omega)]; rfl
          obtain ⟨g0, g1, g2⟩ : wr.cell? ⟨b, off + i * 3, none⟩ = _ ∧ wr.cell? ⟨b, off + i * 3 + 1, none⟩ = _ ∧ wr.cell? ⟨b, off + i * 3 + 2, none⟩ = _ := ⟨(hbw.cell (p := ⟨b, _, none⟩) hb1).trans q0, (hbw.cell (p := ⟨b, _, none⟩) hb1).trans q1, (hbw.cell (p := ⟨b, _, none⟩) hb1).trans q2⟩
          go_wp2
          go_quiet (fail)
          go_wp2
          go_ret
          exact ⟨ret_bool (by rw [goes_within (by simp; omega) (by simp; omega), e2.out, e6.out, Bool.eq_iff_iff]; simp; omega), (by repeat (first | exact Below.refl _ _ | assumption | refine Below.drew ?_ | refine below_drewN ?_ _ | refine Below.alloc ?_ (by first | omega | (simp; try omega)) _ | refine Below.setCell ?_ (by first | omega | (simp; try omega)) _ | (refine Below.trans ?_ (Below.mono (by assumption) (by first | omega | (simp; try omega))))))⟩

theorem part_filter {g : Nat → Bool} {p : Snap → Bool} : ∀ (m : List Snap) (k : Nat), (∀ j s, m[j]? = some s → g (k + j) = p s) → keptFrom g k m = m.filter (fun s => !p s) ∧ goneFrom g k m = m.filter p
  | [], _, _ => ⟨rfl, rfl⟩
  | s :: m, k, h => by
    have h0 := h 0 s rfl
    obtain ⟨h1, h2⟩ := part_filter (p := p) m (k + 1) (fun j t ht => by have := h (j + 1) t (by simpa using ht); rw [← this]; congr 1; omega)
    rw [Nat.add_zero] at h0
    cases hp : p s <;> rw [hp] at h0 <;> simp [keptFrom, goneFrom, h0, h1, h2, hp]

theorem gone_id {l : List Snap} {r : Rule} (h : 0 < r.id) : goneFrom (goesB l r) 0 l = l.filter (fun s => decide (s.id = r.id)) :=
  (part_filter l 0 (fun j s hs => by rw [goes_id h, Nat.zero_add, idAt_eq hs])).2

set_option maxHeartbeats 1000000 in
theorem ref22_Choose (A : Option Addr) (n c : Nat) (l : List Snap) (w : World) (h : SnapsAt w w.heap.size A n l) (r : Rule) :
    Calls Try.prog 15 #[.slice A n c, r.agg] w fun e w' => ∃ a b, e = .returned (.tuple #[a, b, .int .i64 (choose l r).2.2]) ∧ Two w' w.heap.size a b (choose l r).1 (choose l r).2.1 ∧ Below w.heap.size w w' := by
  have hn := h.2.1
  have hl := Lib.hid h.1
  obtain ⟨p, q, d⟩ := r
  unfold Rule.agg
  cases hm : mayL l
  · go_enter Try.func15, Try.ntmps15
    go_wp2_with (go_at_call 31; refine (ref21_May A n c l _ (h.to (by repeat (first | exact Below.refl _ _ | assumption | refine Below.drew ?_ | refine below_drewN ?_ _ | refine Below.alloc ?_ (by first | omega | (simp; try omega)) _ | refine Below.setCell ?_ (by first | omega | (simp; try omega)) _ | (refine Below.trans ?_ (Below.mono (by assumption) (by first | omega | (simp; try omega)))))))).mono ?_; rintro e w1 ⟨rfl, hbw1⟩; obtain ⟨hcw1, hfw1⟩ := bcell hbw1; (try simp only [World.size_drew, World.cell?_drew, World.frozen?_drew, World.heap_drewN, World.cell?_drewN, World.frozen?_drewN] at hcw1 hfw1); have hzw1 := hbw1.size; (try simp at hzw1); (try have hlw1 := (by omega : w.heap.size < w1.heap.size)); (try have hmw1 := (by omega : w.heap.size + 1 < w1.heap.size)); (try have hnw1 := (by omega : w.heap.size + 1 + 1 < w1.heap.size)))
    go_ret3
    exact ⟨.slice none 0 0, .slice none 0 0, by simp [choose, hm], by simp [choose, hm, Two.nils], (by repeat (first | exact Below.refl _ _ | assumption | refine Below.drew ?_ | refine below_drewN ?_ _ | refine Below.alloc ?_ (by first | omega | (simp; try omega)) _ | refine Below.setCell ?_ (by first | omega | (simp; try omega)) _ | (refine Below.trans ?_ (Below.mono (by assumption) (by first | omega | (simp; try omega))))))⟩
  · cases hmr : mayRule ⟨p, q, d⟩
    · go_enter Try.func15, Try.ntmps15
      go_wp2_with (first
        | (go_at_call 31; refine (ref21_May A n c l _ (h.to (by repeat (first | exact Below.refl _ _ | assumption | refine Below.drew ?_ | refine below_drewN ?_ _ | refine Below.alloc ?_ (by first | omega | (simp; try omega)) _ | refine Below.setCell ?_ (by first | omega | (simp; try omega)) _ | (refine Below.trans ?_ (Below.mono (by assumption) (by first | omega | (simp; try omega)))))))).mono ?_; rintro e w1 ⟨rfl, hbw1⟩; obtain ⟨hcw1, hfw1⟩ := bcell hbw1; (try simp only [World.size_drew, World.cell?_drew, World.frozen?_drew, World.heap_drewN, World.cell?_drewN, World.frozen?_drewN] at hcw1 hfw1); have hzw1 := hbw1.size; (try simp at hzw1); (try have hlw1 := (by omega : w.heap.size < w1.heap.size)); (try have hmw1 := (by omega : w.heap.size + 1 < w1.heap.size)); (try have hnw1 := (by omega : w.heap.size + 1 + 1 < w1.heap.size)))
        | (go_at_call 19; refine (ref22_May ⟨p, q, d⟩ _).mono ?_; rintro e w2 ⟨rfl, hbw2⟩; obtain ⟨hcw2, hfw2⟩ := bcell hbw2; (try simp only [World.size_drew, World.cell?_drew, World.frozen?_drew, World.heap_drewN, World.cell?_drewN, World.frozen?_drewN] at hcw2 hfw2); have hzw2 := hbw2.size; (try simp at hzw2); (try have hlw2 := (by omega : w.heap.size < w2.heap.size)); (try have hmw2 := (by omega : w.heap.size + 1 < w2.heap.size)); (try have hnw2 := (by omega : w.heap.size + 1 + 1 < w2.heap.size))))
      go_ret3
      exact ⟨.slice none 0 0, .slice none 0 0, by simp [choose, hm, hmr], by simp [choose, hm, hmr, Two.nils], (by repeat (first | exact Below.refl _ _ | assumption | refine Below.drew ?_ | refine below_drewN ?_ _ | refine Below.alloc ?_ (by first | omega | (simp; try omega)) _ | refine Below.setCell ?_ (by first | omega | (simp; try omega)) _ | (refine Below.trans ?_ (Below.mono (by assumption) (by first | omega | (simp; try omega))))))⟩
    · have ht := Lib.hid (mayL_time hm)
      go_enter Try.func15, Try.ntmps15
      go_wp2_with (first
        | (go_at_call 31; refine (ref21_May A n c l _ (h.to (by repeat (first | exact Below.refl _ _ | assumption | refine Below.drew ?_ | refine below_drewN ?_ _ | refine Below.alloc ?_ (by first | omega | (simp; try omega)) _ | refine Below.setCell ?_ (by first | omega | (simp; try omega)) _ | (refine Below.trans ?_ (Below.mono (by assumption) (by first | omega | (simp; try omega)))))))).mono ?_; rintro e w1 ⟨rfl, hbw1⟩; obtain ⟨hcw1, hfw1⟩ := bcell hbw1; (try simp only [World.size_drew, World.cell?_drew, World.frozen?_drew, World.heap_drewN, World.cell?_drewN, World.frozen?_drewN] at hcw1 hfw1); have hzw1 := hbw1.size; (try simp at hzw1); (try have hlw1 := (by omega : w.heap.size < w1.heap.size)); (try have hmw1 := (by omega : w.heap.size + 1 < w1.heap.size)); (try have hnw1 := (by omega : w.heap.size + 1 + 1 < w1.heap.size)))
        | (go_at_call 19; refine (ref22_May ⟨p, q, d⟩ _).mono ?_; rintro e w2 ⟨rfl, hbw2⟩; obtain ⟨hcw2, hfw2⟩ := bcell hbw2; (try simp only [World.size_drew, World.cell?_drew, World.frozen?_drew, World.heap_drewN, World.cell?_drewN, World.frozen?_drewN] at hcw2 hfw2); have hzw2 := hbw2.size; (try simp at hzw2); (try have hlw2 := (by omega : w.heap.size < w2.heap.size)); (try have hmw2 := (by omega : w.heap.size + 1 < w2.heap.size)); (try have hnw2 := (by omega : w.heap.size + 1 + 1 < w2.heap.size))))
      have hbw5 : Below w.heap.size w w2 := (by repeat (first | exact Below.refl _ _ | assumption | refine Below.drew ?_ | refine below_drewN ?_ _ | refine Below.alloc ?_ (by first | omega | (simp; try omega)) _ | refine Below.setCell ?_ (by first | omega | (simp; try omega)) _ | (refine Below.trans ?_ (Below.mono (by assumption) (by first | omega | (simp; try omega))))))
      go_loopw [7, 8, 9] (fun a b i wr => ∃ k : Nat, ∃ X Y : List Snap, k ≤ n ∧ i = .int .i64 k ∧ Two wr w2.heap.size a b X Y ∧ X.length ≤ k ∧ Y.length ≤ k ∧ Below w2.heap.size w2 wr ∧
        Hid (keptFrom (goesB l ⟨p, q, d⟩) 0 l = X ++ keptFrom (goesB l ⟨p, q, d⟩) k (l.drop k)) ∧ Hid (goneFrom (goesB l ⟨p, q, d⟩) 0 l = Y ++ goneFrom (goesB l ⟨p, q, d⟩) k (l.drop k))) (fun _ _ i _ => n - (intOf i).toNat)
      case atStart => exact ⟨0, [], [], Nat.zero_le _, rfl, Two.nils, Nat.le_refl _, Nat.le_refl _, Below.refl _ _, rfl, rfl⟩
      case round =>
        obtain ⟨k, X, Y, hk, rfl, ht2, hX, hY, hbw, hr1, hr2⟩ := hrel
        have hs := hbw.size
        have hn32 : n ≤ 32 := by have := hl.out; have := mayL_len hm; omega
        have hwr : w.heap.size < wr.heap.size := by omega
        obtain ⟨c0, c1, c2⟩ : wr.cell? ⟨w.heap.size, 0, none⟩ = some (.int .i64 p) ∧ wr.cell? ⟨w.heap.size, 1, none⟩ = some (.int .i64 q) ∧ wr.cell? ⟨w.heap.size, 2, none⟩ = some (.int .i64 d) := by
          have e : ∀ o, wr.cell? ⟨w.heap.size, o, none⟩ = w2.cell? ⟨w.heap.size, o, none⟩ := fun o => hbw.cell (p := ⟨w.heap.size, o, none⟩) hlw2
          rw [e, e, e]
          go_simp
        have hbwr : Below w.heap.size w wr := hbw5.trans (hbw.mono (by omega))
        by_cases hlt : k < n
        · obtain ⟨b, off, s, rfl, hb1, hx, q0, q1, q2⟩ := (h.below hbwr).snap hlt
          have hd := Lib.hid (drop_cons hx)
          clear hx
          have hb2 : b < wr.heap.size := by omega
          cases hq : goesB l ⟨p, q, d⟩ k
          · go_wp2_with (first
              | (go_at_call 32; refine (ref22_goes _ n c l _ (h.to (by repeat (first | exact Below.refl _ _ | assumption | refine Below.drew ?_ | refine below_drewN ?_ _ | refine Below.alloc ?_ (by first | omega | (simp; try omega)) _ | refine Below.setCell ?_ (by first | omega | (simp; try omega)) _ | (refine Below.trans ?_ (Below.mono (by assumption) (by first | omega | (simp; try omega))))))) ht.out ⟨p, q, d⟩ k hlt).mono ?_; rintro e w6 ⟨rfl, hbw6⟩; obtain ⟨hcw6, hfw6⟩ := bcell hbw6; (try simp only [World.size_drew, World.cell?_drew, World.frozen?_drew, World.heap_drewN, World.cell?_drewN, World.frozen?_drewN] at hcw6 hfw6); have hzw6 := hbw6.size; (try simp at hzw6); (try have hlw6 := (by omega : w.heap.size < w6.heap.size)); (try have hmw6 := (by omega : w.heap.size + 1 < w6.heap.size)); (try have hnw6 := (by omega : w.heap.size + 1 + 1 < w6.heap.size)))
              | (at_builtin; go_must (refine wpList_append_snap rfl (.tmp 33) (.tmp 38) rfl w2.heap.size u7 X rfl _ _ s rfl (((ht2.below (w' := w6) (by repeat (first | exact Below.refl _ _ | assumption | refine Below.drew ?_ | refine below_drewN ?_ _ | refine Below.alloc ?_ (by first | omega | (simp; try omega)) _ | refine Below.setCell ?_ (by first | omega | (simp; try omega)) _ | (refine Below.trans ?_ (Below.mono (by assumption) (by first | omega | (simp; try omega))))))).1.alloc _)) (cell_new _ _ _ _ _) (cell_new _ _ _ _ _) (cell_new _ _ _ _ _) (by omega) (by first | omega | (simp; try omega)) ?_; intro v' w' hown' hg' hat'; have hzw' := hg'.size; (try simp at hzw'))))
            have ht3 := ht2.below (w' := w6) (by repeat (first | exact Below.refl _ _ | assumption | refine Below.drew ?_ | refine below_drewN ?_ _ | refine Below.alloc ?_ (by first | omega | (simp; try omega)) _ | refine Below.setCell ?_ (by first | omega | (simp; try omega)) _ | (refine Below.trans ?_ (Below.mono (by assumption) (by first | omega | (simp; try omega))))))
            have ht4 := Two.left (ht3.alloc _) hown' hg' hat'
            go_roundw
            case rel => exact ⟨k + 1, X ++ [s], Y, by omega, by go_num, ht4, by simp; omega, by omega, Below.own (by repeat (first | exact Below.refl _ _ | assumption | refine Below.drew ?_ | refine below_drewN ?_ _ | refine Below.alloc ?_ (by first | omega | (simp; try omega)) _ | refine Below.setCell ?_ (by first | omega | (simp; try omega)) _ | (refine Below.trans ?_ (Below.mono (by assumption) (by first | omega | (simp; try omega)))))) (ht3.1.alloc _) (by first | omega | (simp; try omega)) hg', hr1.out.trans (kept_no hd.out hq X), hr2.out.trans (gone_no hd.out hq Y)⟩
            case measure => simp [intOf]; omega
          · go_wp2_with (first
              | (go_at_call 32; refine (ref22_goes _ n c l _ (h.to (by repeat (first | exact Below.refl _ _ | assumption | refine Below.drew ?_ | refine below_drewN ?_ _ | refine Below.alloc ?_ (by first | omega | (simp; try omega)) _ | refine Below.setCell ?_ (by first | omega | (simp; try omega)) _ | (refine Below.trans ?_ (Below.mono (by assumption) (by first | omega | (simp; try omega))))))) ht.out ⟨p, q, d⟩ k hlt).mono ?_; rintro e w6 ⟨rfl, hbw6⟩; obtain ⟨hcw6, hfw6⟩ := bcell hbw6; (try simp only [World.size_drew, World.cell?_drew, World.frozen?_drew, World.heap_drewN, World.cell?_drewN, World.frozen?_drewN] at hcw6 hfw6); have hzw6 := hbw6.size; (try simp at hzw6); (try have hlw6 := (by omega : w.heap.size < w6.heap.size)); (try have hmw6 := (by omega : w.heap.size + 1 < w6.heap.size)); (try have hnw6 := (by omega : w.heap.size + 1 + 1 < w6.heap.size)))
              | (at_builtin; go_must (refine wpList_append_snap rfl (.tmp 26) (.tmp 31) rfl w2.heap.size u8 Y rfl _ _ s rfl (((ht2.below (w' := w6) (by repeat (first | exact Below.refl _ _ | assumption | refine Below.drew ?_ | refine below_drewN ?_ _ | refine Below.alloc ?_ (by first | omega | (simp; try omega)) _ | refine Below.setCell ?_ (by first | omega | (simp; try omega)) _ | (refine Below.trans ?_ (Below.mono (by assumption) (by first | omega | (simp; try omega))))))).2.1.alloc _)) (cell_new _ _ _ _ _) (cell_new _ _ _ _ _) (cell_new _ _ _ _ _) (by omega) (by first | omega | (simp; try omega)) ?_; intro v' w' hown' hg' hat'; have hzw' := hg'.size; (try simp at hzw'))))
            have ht3 := ht2.below (w' := w6) (by repeat (first | exact Below.refl _ _ | assumption | refine Below.drew ?_ | refine below_drewN ?_ _ | refine Below.alloc ?_ (by first | omega | (simp; try omega)) _ | refine Below.setCell ?_ (by first | omega | (simp; try omega)) _ | (refine Below.trans ?_ (Below.mono (by assumption) (by first | omega | (simp; try omega))))))
            have ht4 := Two.right (ht3.alloc _) hown' hg' hat'
            go_roundw
            case rel => exact ⟨k + 1, X, Y ++ [s], by omega, by go_num, ht4, by omega, by simp; omega, Below.own (by repeat (first | exact Below.refl _ _ | assumption | refine Below.drew ?_ | refine below_drewN ?_ _ | refine Below.alloc ?_ (by first | omega | (simp; try omega)) _ | refine Below.setCell ?_ (by first | omega | (simp; try omega)) _ | (refine Below.trans ?_ (Below.mono (by assumption) (by first | omega | (simp; try omega)))))) (ht3.2.1.alloc _) (by first | omega | (simp; try omega)) hg', hr1.out.trans (kept_yes hd.out hq X), hr2.out.trans (gone_yes hd.out hq Y)⟩
            case measure => simp [intOf]; omega
        · obtain ⟨A8, c8, rfl⟩ := ht2.2.1.form
          obtain ⟨e1, e2⟩ : Hid (keptFrom (goesB l ⟨p, q, d⟩) 0 l = X) ∧ Hid (goneFrom (goesB l ⟨p, q, d⟩) 0 l = Y) := by
            have e1 := hr1.out
            have e2 := hr2.out
            have := hl.out
            rw [List.drop_eq_nil_of_le (by omega)] at e1 e2
            simp only [keptFrom, goneFrom, List.append_nil] at e1 e2
            exact ⟨e1, e2⟩
          clear hr1 hr2
          by_cases hcode : 0 < p ∧ Y.length = 0
          · obtain ⟨hp, hY0⟩ := hcode
            have hY1 : ((Y.length : Int) == 0) = true := by simp; exact List.eq_nil_of_length_eq_zero hY0
            replace hY0 := Lib.hid hY0
            have hch : Hid (choose l ⟨p, q, d⟩ = ([], [], 5)) := by
              unfold Hid choose
              rw [if_pos hm, if_pos hmr, if_pos]
              have e3 := e2.out
              rw [List.eq_nil_of_length_eq_zero hY0.out, gone_id (by exact hp), List.filter_eq_nil_iff] at e3
              simp only [Bool.and_eq_true, decide_eq_true_eq, Bool.not_eq_true', List.any_eq_false]
              exact ⟨hp, fun x hx => by simpa using e3 x hx⟩
            go_wp2
            go_ret3
            exact ⟨.slice none 0 0, .slice none 0 0, by rw [hch.out]; rfl, by rw [hch.out]; exact Two.nils, (by repeat (first | exact Below.refl _ _ | assumption | refine Below.drew ?_ | refine below_drewN ?_ _ | refine Below.alloc ?_ (by first | omega | (simp; try omega)) _ | refine Below.setCell ?_ (by first | omega | (simp; try omega)) _ | (refine Below.trans ?_ (Below.mono (by assumption) (by first | omega | (simp; try omega))))))⟩
          · have hch : Hid (choose l ⟨p, q, d⟩ = (X, Y, 0)) := by
              unfold Hid choose
              rw [if_pos hm, if_pos hmr, if_neg, e1.out, e2.out]
              simp only [Bool.and_eq_true, decide_eq_true_eq, Bool.not_eq_true']
              rintro ⟨hp, hany⟩
              refine hcode ⟨hp, ?_⟩
              have e3 := e2.out
              rw [gone_id (by exact hp)] at e3
              rw [← e3, List.length_eq_zero_iff, List.filter_eq_nil_iff]
              simp only [List.any_eq_false] at hany
              exact hany
            have hcase : (0 < p ∧ ((Y.length : Int) == 0) = false) ∨ p ≤ 0 := by
              by_cases hp : 0 < p
              · left; exact ⟨hp, by simp; intro h0; exact hcode ⟨hp, by rw [h0]; rfl⟩⟩
              · right; omega
            clear hcode
            rcases hcase with ⟨hp, hY0⟩ | hp
            all_goals
              go_wp2
              go_ret3
              exact ⟨u7, .slice A8 Y.length c8, by rw [hch.out]; rfl, by rw [hch.out]; exact ht2.base (by omega), (by repeat (first | exact Below.refl _ _ | assumption | refine Below.drew ?_ | refine below_drewN ?_ _ | refine Below.alloc ?_ (by first | omega | (simp; try omega)) _ | refine Below.setCell ?_ (by first | omega | (simp; try omega)) _ | (refine Below.trans ?_ (Below.mono (by assumption) (by first | omega | (simp; try omega))))))⟩

set_option maxHeartbeats 400000 in
theorem ref22_Same (A A' : Option Addr) (n n' c c' : Nat) (l l' : List Snap) (w : World) (h : SnapsAt w w.heap.size A n l) (h' : SnapsAt w w.heap.size A' n' l') :
    Calls Try.prog 16 #[.slice A n c, .slice A' n' c'] w fun e w' => e = .returned (.bool (sameL l l')) ∧ Below w.heap.size w w' := by
  have hn := h.2.1
  have hl := Lib.hid h.1
  have hl' := Lib.hid h'.1
  by_cases hnn : n = n'
  · subst hnn
    have hb : ((n : Int) != (n : Int)) = false := by simp
    go_enter Try.func16, Try.ntmps16
    go_wp2
    go_loopw [5] (fun i wr => ∃ k : Nat, k ≤ n ∧ i = .int .i64 k ∧ Below w.heap.size w wr ∧ Hid (l.take k = l'.take k)) (fun i _ => n - (intOf i).toNat)
    case atStart => exact ⟨0, Nat.zero_le _, rfl, Below.refl _ _, rfl⟩
    case round =>
      obtain ⟨k, hk, rfl, hbw, hr⟩ := hrel
      by_cases hlt : k < n
      · obtain ⟨b, off, s, rfl, hb1, hx, h0, h1, h2⟩ := (h.below hbw).snap hlt
        obtain ⟨b', off', s', rfl, hb1', hx', h0', h1', h2'⟩ := (h'.below hbw).snap hlt
        have e := eqSnap s s'
        replace hx := Lib.hid hx
        replace hx' := Lib.hid hx'
        cases hq : s.same s'
        · go_wp2
          go_quiet (fail)
          go_wp2
          go_ret
          exact ⟨ret_bool (sameL_no hx.out hx'.out hq), (by repeat (first | exact Below.refl _ _ | assumption | refine Below.drew ?_ | refine below_drewN ?_ _ | refine Below.alloc ?_ (by first | omega | (simp; try omega)) _ | refine Below.setCell ?_ (by first | omega | (simp; try omega)) _ | (refine Below.trans ?_ (Below.mono (by assumption) (by first | omega | (simp; try omega))))))⟩
        · have hss := Lib.hid (Snap.same_iff.1 hq)
          go_wp2
          go_quiet (fail)
          go_wp2
          go_roundw
          case rel => exact ⟨k + 1, by omega, by go_num, (by repeat (first | exact Below.refl _ _ | assumption | refine Below.drew ?_ | refine below_drewN ?_ _ | refine Below.alloc ?_ (by first | omega | (simp; try omega)) _ | refine Below.setCell ?_ (by first | omega | (simp; try omega)) _ | (refine Below.trans ?_ (Below.mono (by assumption) (by first | omega | (simp; try omega)))))), take_step hr.out hx.out (hss.out ▸ hx'.out)⟩
          case measure => simp [intOf]; omega
      · obtain rfl : k = n := by omega
        go_wp2
        go_ret
        exact ⟨ret_bool (sameL_yes hl.out hl'.out hr.out), (by repeat (first | exact Below.refl _ _ | assumption | refine Below.drew ?_ | refine below_drewN ?_ _ | refine Below.alloc ?_ (by first | omega | (simp; try omega)) _ | refine Below.setCell ?_ (by first | omega | (simp; try omega)) _ | (refine Below.trans ?_ (Below.mono (by assumption) (by first | omega | (simp; try omega))))))⟩
  · have hb : ((n : Int) != (n' : Int)) = true := by simp; omega
    go_enter Try.func16, Try.ntmps16
    go_wp2
    go_ret
    exact ⟨ret_bool (sameL_len (by rw [hl.out, hl'.out]; exact hnn)), (by repeat (first | exact Below.refl _ _ | assumption | refine Below.drew ?_ | refine below_drewN ?_ _ | refine Below.alloc ?_ (by first | omega | (simp; try omega)) _ | refine Below.setCell ?_ (by first | omega | (simp; try omega)) _ | (refine Below.trans ?_ (Below.mono (by assumption) (by first | omega | (simp; try omega))))))⟩
end Go.Proofs.Ytgopkjgkjjllfaa
