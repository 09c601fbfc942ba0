/-
  For every list of snapshots and every rule KeepEach returns true: each snapshot is kept or goes, in its row; by a Last, or a Within, the newest stays; chosen again by the same, all that were kept are kept. No condition.
-/
import Derived.Test.YtgopkjgkjjllfaaKeepMore
namespace Go.Proofs.Ytgopkjgkjjllfaa
open Go.ChangeShapes Go.WideShapes Go.ChangeAt Go.RowKit

theorem kept_all {g : Nat → Bool} : ∀ (m : List Snap) (k : Nat), (∀ j s, m[j]? = some s → g (k + j) = false) → keptFrom g k m = m ∧ goneFrom g k m = []
  | [], _, _ => ⟨rfl, rfl⟩
  | s :: m, k, h => by
    have h0 := h 0 s rfl
    obtain ⟨h1, h2⟩ := kept_all m (k + 1) (fun j t ht => by have := h (j + 1) t (by simpa using ht); rw [← this]; congr 1; omega)
    rw [Nat.add_zero] at h0
    simp [keptFrom, goneFrom, h0, h1, h2]
theorem kept_last {N : Int} : ∀ (m : List Snap) (k : Nat), keptFrom (fun i => decide ((i : Int) < N)) k m = m.drop (N - k).toNat
  | [], _ => by simp [keptFrom]
  | s :: m, k => by
    have ih := kept_last (N := N) m (k + 1)
    unfold keptFrom
    by_cases h : (k : Int) < N
    · obtain ⟨j, hj⟩ : ∃ j, (N - k).toNat = j + 1 := ⟨(N - k).toNat - 1, by omega⟩
      have : (N - (k + 1 : Nat)).toNat = j := by omega
      rw [this] at ih
      simp [h, hj, ih]
    · have h0 : (N - k).toNat = 0 := by omega
      have h1 : (N - (k + 1 : Nat)).toNat = 0 := by omega
      rw [h1] at ih
      simp [h, h0, ih]
theorem newest_mem : ∀ {l : List Snap} {y : Int}, l.foldl (fun m s => max m s.time) y = y ∨ ∃ s ∈ l, s.time = l.foldl (fun m s => max m s.time) y
  | [], _ => .inl rfl
  | s :: l, y => by
    simp only [List.foldl_cons]
    rcases newest_mem (l := l) (y := max y s.time) with h | ⟨t, ht, h⟩
    · rw [h]
      rcases Int.le_total y s.time with hy | hy
      · right; exact ⟨s, by simp, by omega⟩
      · left; omega
    · right; exact ⟨t, by simp [ht], h⟩
theorem newest_up : ∀ {l : List Snap} {y : Int}, ∀ s ∈ l, s.time ≤ l.foldl (fun m s => max m s.time) y
  | [], _ => by simp
  | t :: l, y => by
    intro s hs
    simp only [List.foldl_cons]
    simp at hs
    rcases hs with rfl | hs
    · have := newest_ge l (max y s.time); omega
    · exact newest_up s hs
theorem newest_of {l : List Snap} {y : Int} (h1 : ∀ s ∈ l, s.time ≤ y) (h2 : ∃ s ∈ l, s.time = y) (hy : 0 ≤ y) : newestOf l = y := by
  obtain ⟨s, hs, rfl⟩ := h2
  have ha := newest_up (y := 0) s hs
  have hb : ∀ {l : List Snap} {z : Int}, (∀ t ∈ l, t.time ≤ s.time) → z ≤ s.time → l.foldl (fun m s => max m s.time) z ≤ s.time := by
    intro l
    induction l with
    | nil => intro z _ hz; exact hz
    | cons t l ih => intro z h hz; exact ih (fun t ht => h t (by simp [ht])) (by have := h t (by simp); show max z t.time ≤ _; omega)
  have := hb h1 hy
  unfold newestOf
  omega
theorem newest_in {l : List Snap} (hne : l ≠ []) (ht : ∀ s ∈ l, 0 ≤ s.time ∧ s.time ≤ 1099511627776) : ∃ s ∈ l, s.time = newestOf l := by
  rcases newest_mem (l := l) (y := 0) with h | h
  · obtain ⟨s, hs⟩ := List.exists_mem_of_ne_nil l hne
    have := newest_up (y := 0) s hs
    have := (ht s hs).1
    exact ⟨s, hs, by unfold newestOf; omega⟩
  · exact h

/-- By a Last: what is kept, and that all of it is kept again. -/
theorem each_last {l : List Snap} {q : Int} (hm : mayL l = true) (hq : 0 < q) (hne : l ≠ []) :
    let K := keptFrom (goesB l ⟨0, q, 0⟩) 0 l
    K ≠ [] ∧ K[K.length - 1]? = l[l.length - 1]? ∧ choose K ⟨0, q, 0⟩ = (K, [], 0) := by
  have hg : goesB l ⟨0, q, 0⟩ = fun i : Nat => decide ((i : Int) < (l.length : Int) - q) := by funext i; exact goes_last (by simp) hq
  have hK : keptFrom (goesB l ⟨0, q, 0⟩) 0 l = l.drop ((l.length : Int) - q).toNat := by rw [hg, kept_last]; simp
  have hpos : 0 < l.length := List.length_pos_iff.2 hne
  intro K
  have hK : K = l.drop ((l.length : Int) - q).toNat := hK
  have hlen : K.length = l.length - ((l.length : Int) - q).toNat := by rw [hK, List.length_drop]
  refine ⟨fun h => ?_, ?_, ?_⟩
  · rw [h] at hlen; simp at hlen; omega
  · rw [hlen, hK, List.getElem?_drop]; congr 1; omega
  · rw [choose_of (mayL_sub (by rw [hK]; exact List.drop_sublist _ _) hm) (by simp [mayRule]; omega) (by simp)]
    obtain ⟨h1, h2⟩ := kept_all (g := goesB K ⟨0, q, 0⟩) K 0 (fun j s hs => by
      rw [goes_last (by simp) hq]
      have := (List.getElem?_eq_some_iff.1 hs).1
      simp; omega)
    rw [h1, h2]
theorem kept_in {g : Nat → Bool} : ∀ (m : List Snap) (k : Nat) (j : Nat) (s : Snap), m[j]? = some s → g (k + j) = false → s ∈ keptFrom g k m
  | [], _, j, s, h, _ => by simp at h
  | t :: m, k, 0, s, h, hg => by
    simp at h
    subst h
    simp [keptFrom, show g k = false from hg]
  | t :: m, k, j + 1, s, h, hg => by
    have := kept_in (g := g) m (k + 1) j s (by simpa using h) (by rw [← hg]; congr 1; omega)
    unfold keptFrom
    split
    · exact this
    · simp [this]
theorem kept_out {g : Nat → Bool} : ∀ (m : List Snap) (k : Nat) (s : Snap), s ∈ keptFrom g k m → ∃ j, m[j]? = some s ∧ g (k + j) = false
  | [], _, s, h => by simp [keptFrom] at h
  | t :: m, k, s, h => by
    unfold keptFrom at h
    split at h
    · obtain ⟨j, h1, h2⟩ := kept_out m (k + 1) s h
      exact ⟨j + 1, by simpa using h1, by rw [← h2]; congr 1; omega⟩
    · rename_i hg
      simp at h
      rcases h with rfl | h
      · exact ⟨0, by simp, by simpa using hg⟩
      · obtain ⟨j, h1, h2⟩ := kept_out m (k + 1) s h
        exact ⟨j + 1, by simpa using h1, by rw [← h2]; congr 1; omega⟩
/-- By a Within. -/
theorem each_within {l : List Snap} {d : Int} (hm : mayL l = true) (hd : 0 < d) (hne : l ≠ []) :
    let K := keptFrom (goesB l ⟨0, 0, d⟩) 0 l
    (∃ s ∈ K, s.time = newestOf l) ∧ choose K ⟨0, 0, d⟩ = (K, [], 0) := by
  have ht := mayL_time hm
  obtain ⟨s, hs, hsn⟩ := newest_in hne ht
  intro K
  have hsK : s ∈ K := by
    obtain ⟨j, hj⟩ := List.getElem?_of_mem hs
    exact kept_in l 0 j s hj (by rw [goes_within (by simp) (by simp), Nat.zero_add, timeAt_eq hj]; simp; omega)
  have hsub : K.Sublist l := kept_sub _ l 0
  have hnew : newestOf K = newestOf l := newest_of (fun t h => newest_up t (hsub.subset h)) ⟨s, hsK, hsn⟩ (newest_ge l 0)
  refine ⟨⟨s, hsK, hsn⟩, ?_⟩
  rw [choose_of (mayL_sub hsub hm) (by simp [mayRule]; omega) (by simp)]
  obtain ⟨h1, h2⟩ := kept_all (g := goesB K ⟨0, 0, d⟩) K 0 (fun j t hj => by
    rw [goes_within (by simp) (by simp), Nat.zero_add, timeAt_eq hj, hnew]
    obtain ⟨i, hi, hg⟩ := kept_out l 0 t (List.mem_of_getElem? hj)
    rw [goes_within (by simp) (by simp), Nat.zero_add, timeAt_eq hi] at hg
    exact hg)
  rw [h1, h2]
-- GENERATED (wip/tools/gen_keepeach.py)
section
variable (A : Option Addr) (n c : Nat) (l : List Snap) (w : World) (h : SnapsAt w w.heap.size A n l) (h1 : ¬ 100 < n) (K G : List Snap) (g : Nat → Bool) (hn : n ≤ 9223372036854775807) (hl : Hid (l.length = n))
  (hri : Hid (rising 0 l = true)) (htime : Hid (∀ s ∈ l, 0 ≤ s.time ∧ s.time ≤ 1099511627776)) (hK : Hid (K = keptFrom g 0 l)) (hG : Hid (G = goneFrom g 0 l)) (hlK : K.length ≤ 32) (hlG : G.length ≤ 32)
include h h1 hl hri hK hG hlK hlG

set_option maxHeartbeats 4000000 in
set_option maxRecDepth 100000 in
theorem keepEach_id (p : Int) (t : Snap) (hGt : Hid (G = [t])) (htp : t.id = p) (hp : 0 < p) (hch : Hid (choose l ⟨p, 0, 0⟩ = (K, G, 0))) :
    Calls Try.prog 6 #[.slice A n c, .agg #[.int .i64 p, .int .i64 0, .int .i64 0]] w fun e w' => e = .returned (.bool true) ∧ Below w.heap.size w w' := by
  go_enter Try.func6, Try.ntmps6
  go_wp2_with (go_at_call 13; refine (awake_any _).mono ?_; rintro e w1 ⟨rfl, hbw1⟩; obtain ⟨hcw1, hfw1⟩ := bcell hbw1; (try simp only [World.size_drew, World.cell?_drew, World.frozen?_drew, World.heap_drewN, World.cell?_drewN, World.frozen?_drewN] at hcw1 hfw1); have hzw1 := hbw1.size; (try simp at hzw1); (try have hlw1 := (by omega : w.heap.size < w1.heap.size)); (try have hmw1 := (by omega : w.heap.size + 1 < w1.heap.size)); (try have hnw1 := (by omega : w.heap.size + 1 + 1 < w1.heap.size)))
  refine (keep_Choose' (r := ⟨p, 0, 0⟩) (h.to (by repeat (first | exact Below.refl _ _ | assumption | refine Below.drew ?_ | refine below_drewN ?_ _ | refine Below.alloc ?_ (by first | omega | (simp; try omega)) _ | refine Below.setCell ?_ (by first | omega | (simp; try omega)) _ | (refine Below.trans ?_ (Below.mono (by assumption) (by first | omega | (simp; try omega))))))) (by simp; try omega) (by simp; try omega) hch.out).mono ?_
  rintro e w2 ⟨A1, c1, A2, c2, rfl, _, r1, r2, hbw2⟩
  obtain ⟨hcw2, hfw2⟩ := bcell hbw2; (try simp only [World.size_drew, World.cell?_drew, World.frozen?_drew, World.heap_drewN, World.cell?_drewN, World.frozen?_drewN] at hcw2 hfw2); have hzw2 := hbw2.size; (try simp at hzw2); (try have hlw2 := (by omega : w.heap.size < w2.heap.size)); (try have hmw2 := (by omega : w.heap.size + 1 < w2.heap.size)); (try have hnw2 := (by omega : w.heap.size + 1 + 1 < w2.heap.size))
  have x0 : w2.cell? ⟨w.heap.size, 0, none⟩ = some (.int .i64 p) := by go_simp
  have x1 : w2.cell? ⟨w.heap.size, 1, none⟩ = some (.int .i64 0) := by go_simp
  have x2 : w2.cell? ⟨w.heap.size, 2, none⟩ = some (.int .i64 0) := by go_simp
  have hbb : Below w.heap.size w w2 := (by repeat (first | exact Below.refl _ _ | assumption | refine Below.drew ?_ | refine below_drewN ?_ _ | refine Below.alloc ?_ (by first | omega | (simp; try omega)) _ | refine Below.setCell ?_ (by first | omega | (simp; try omega)) _ | (refine Below.trans ?_ (Below.mono (by assumption) (by first | omega | (simp; try omega))))))
  have h0 := h.to hbb
  have ee := eqSnapE
  clear hcw1 hfw1 hcw2 hfw2
  go_wp2_with fail
  go_loopw [8, 9, 10] (fun vi vk vn wr => ∃ i k j : Nat, vi = .int .i64 i ∧ vk = .int .i64 k ∧ vn = .int .i64 j ∧ j ≤ n ∧ i ≤ K.length ∧ k ≤ G.length ∧ Below w2.heap.size w2 wr ∧
    Hid (K.drop i = keptFrom g j (l.drop j)) ∧ Hid (G.drop k = goneFrom g j (l.drop j))) (fun _ _ vn _ => n - (intOf vn).toNat)
  case atStart => exact ⟨0, 0, 0, rfl, rfl, rfl, Nat.zero_le _, Nat.zero_le _, Nat.zero_le _, Below.refl _ _, hK, hG⟩
  case round =>
    obtain ⟨i, k, j, rfl, rfl, rfl, hj, hi, hk, hbr, hrK, hrG⟩ := hrel
    have r1' := r1.to hbr
    have r2' := r2.to hbr
    have h' := h0.to hbr
    have hbz := hbr.size
    by_cases hlt : j < n
    · obtain ⟨b, off, s, rfl, hb1, hx, q0, q1, q2⟩ := h'.snap hlt
      have hd := Lib.hid (drop_cons hx)
      clear hx
      cases hq : g j
      · obtain ⟨hi1, hKi, hK'⟩ := merge_kept hd.out hrK.out hq
        obtain ⟨b', off', rfl, hb2⟩ := r1'.addr hi1
        obtain ⟨p0, p1, p2⟩ := r1'.snapEx hKi
        have hG' := Lib.hid (merge_skip' hd.out hrG.out hq)
        replace hK' := Lib.hid hK'
        clear hKi
        have hss : s.same s = true := Snap.same_iff.2 rfl
        have hg1 : decide (i < K.length) = true := by simpa using hi1
        go_wp2
        go_quiet (fail)
        go_wp2
        go_roundw
        case rel => exact ⟨i + 1, k, j + 1, by go_num, rfl, by go_num, by omega, by omega, by omega, (by repeat (first | exact Below.refl _ _ | assumption | refine Below.drew ?_ | refine below_drewN ?_ _ | refine Below.alloc ?_ (by first | omega | (simp; try omega)) _ | refine Below.setCell ?_ (by first | omega | (simp; try omega)) _ | (refine Below.trans ?_ (Below.mono (by assumption) (by first | omega | (simp; try omega)))))), hK', hG'⟩
        case measure => simp [intOf]; omega
      · obtain ⟨hk1, hGi, hG'⟩ := merge_gone hd.out hrG.out hq
        obtain ⟨b', off', rfl, hb2⟩ := r2'.addr hk1
        obtain ⟨p0, p1, p2⟩ := r2'.snapEx hGi
        obtain ⟨hK', hne⟩ := merge_skip hri.out hd.out hrK.out hq
        replace hK' := Lib.hid hK'
        replace hG' := Lib.hid hG'
        replace hne := Lib.hid hne
        clear hGi
        have hss : s.same s = true := Snap.same_iff.2 rfl
        have hg2 : decide (k < G.length) = true := by simpa using hk1
        by_cases hi1 : i < K.length
        · obtain ⟨t, ht⟩ := getElem_some hi1
          obtain ⟨b'', off'', rfl, hb3⟩ := r1'.addr hi1
          obtain ⟨o0, o1, o2⟩ := r1'.snapEx ht
          have hts : t.same s = false := hne.out t ht
          clear ht
          have hg1 : decide (i < K.length) = true := by simpa using hi1
          go_wp2
          go_quiet (fail)
          go_wp2
          go_quiet (fail)
          go_wp2
          go_roundw
          case rel => exact ⟨i, k + 1, j + 1, rfl, by go_num, by go_num, by omega, by omega, by omega, (by repeat (first | exact Below.refl _ _ | assumption | refine Below.drew ?_ | refine below_drewN ?_ _ | refine Below.alloc ?_ (by first | omega | (simp; try omega)) _ | refine Below.setCell ?_ (by first | omega | (simp; try omega)) _ | (refine Below.trans ?_ (Below.mono (by assumption) (by first | omega | (simp; try omega)))))), hK', hG'⟩
          case measure => simp [intOf]; omega
        · have hg1 : decide (i < K.length) = false := by simpa using hi1
          go_wp2
          go_quiet (fail)
          go_wp2
          go_quiet (fail)
          go_wp2
          go_roundw
          case rel => exact ⟨i, k + 1, j + 1, rfl, by go_num, by go_num, by omega, by omega, by omega, (by repeat (first | exact Below.refl _ _ | assumption | refine Below.drew ?_ | refine below_drewN ?_ _ | refine Below.alloc ?_ (by first | omega | (simp; try omega)) _ | refine Below.setCell ?_ (by first | omega | (simp; try omega)) _ | (refine Below.trans ?_ (Below.mono (by assumption) (by first | omega | (simp; try omega)))))), hK', hG'⟩
          case measure => simp [intOf]; omega
    · obtain rfl : i = K.length := drop_end hi (by rw [hrK.out, List.drop_eq_nil_of_le (by have := hl.out; omega)]; rfl)
      obtain rfl : k = G.length := drop_end hk (by rw [hrG.out, List.drop_eq_nil_of_le (by have := hl.out; omega)]; rfl)
      have hbw : Below w.heap.size w wr := (by repeat (first | exact Below.refl _ _ | assumption | refine Below.drew ?_ | refine below_drewN ?_ _ | refine Below.alloc ?_ (by first | omega | (simp; try omega)) _ | refine Below.setCell ?_ (by first | omega | (simp; try omega)) _ | (refine Below.trans ?_ (Below.mono (by assumption) (by first | omega | (simp; try omega))))))
      have y0 := (hbr.cell (p := ⟨w.heap.size, 0, none⟩) hlw2).trans x0
      have y1 := (hbr.cell (p := ⟨w.heap.size, 1, none⟩) hlw2).trans x1
      have y2 := (hbr.cell (p := ⟨w.heap.size, 2, none⟩) hlw2).trans x2
      rw [hGt.out] at r2'
      obtain ⟨g0, o0, rfl, hgl, z0, _⟩ := r2'.first
      have hG1 : G.length = 1 := by rw [hGt.out]; rfl
      rw [hG1]
      rw [htp] at z0
      have hpp : (p == p) = true := by simp
      go_wp2
      go_quiet (fail)
      go_wp2
      go_ret
      exact ⟨rfl, (by repeat (first | exact Below.refl _ _ | assumption | refine Below.drew ?_ | refine below_drewN ?_ _ | refine Below.alloc ?_ (by first | omega | (simp; try omega)) _ | refine Below.setCell ?_ (by first | omega | (simp; try omega)) _ | (refine Below.trans ?_ (Below.mono (by assumption) (by first | omega | (simp; try omega))))))⟩

include htime in
set_option maxHeartbeats 8000000 in
set_option maxRecDepth 100000 in
theorem keepEach_last (q : Int) (hq : 0 < q) (hq9 : q ≤ 9223372036854775807) (hch : Hid (choose l ⟨0, q, 0⟩ = (K, G, 0)))
    (hagain : Hid (l ≠ [] → (K ≠ [] ∧ Hid (K[K.length - 1]? = l[l.length - 1]?)) ∧ choose K ⟨0, q, 0⟩ = (K, [], 0))) :
    Calls Try.prog 6 #[.slice A n c, .agg #[.int .i64 0, .int .i64 q, .int .i64 0]] w fun e w' => e = .returned (.bool true) ∧ Below w.heap.size w w' := by
  go_enter Try.func6, Try.ntmps6
  go_wp2_with (go_at_call 13; refine (awake_any _).mono ?_; rintro e w1 ⟨rfl, hbw1⟩; obtain ⟨hcw1, hfw1⟩ := bcell hbw1; (try simp only [World.size_drew, World.cell?_drew, World.frozen?_drew, World.heap_drewN, World.cell?_drewN, World.frozen?_drewN] at hcw1 hfw1); have hzw1 := hbw1.size; (try simp at hzw1); (try have hlw1 := (by omega : w.heap.size < w1.heap.size)); (try have hmw1 := (by omega : w.heap.size + 1 < w1.heap.size)); (try have hnw1 := (by omega : w.heap.size + 1 + 1 < w1.heap.size)))
  refine (keep_Choose' (r := ⟨0, q, 0⟩) (h.to (by repeat (first | exact Below.refl _ _ | assumption | refine Below.drew ?_ | refine below_drewN ?_ _ | refine Below.alloc ?_ (by first | omega | (simp; try omega)) _ | refine Below.setCell ?_ (by first | omega | (simp; try omega)) _ | (refine Below.trans ?_ (Below.mono (by assumption) (by first | omega | (simp; try omega))))))) (by simp; try omega) (by simp; try omega) hch.out).mono ?_
  rintro e w2 ⟨A1, c1, A2, c2, rfl, _, r1, r2, hbw2⟩
  obtain ⟨hcw2, hfw2⟩ := bcell hbw2; (try simp only [World.size_drew, World.cell?_drew, World.frozen?_drew, World.heap_drewN, World.cell?_drewN, World.frozen?_drewN] at hcw2 hfw2); have hzw2 := hbw2.size; (try simp at hzw2); (try have hlw2 := (by omega : w.heap.size < w2.heap.size)); (try have hmw2 := (by omega : w.heap.size + 1 < w2.heap.size)); (try have hnw2 := (by omega : w.heap.size + 1 + 1 < w2.heap.size))
  have x0 : w2.cell? ⟨w.heap.size, 0, none⟩ = some (.int .i64 0) := by go_simp
  have x1 : w2.cell? ⟨w.heap.size, 1, none⟩ = some (.int .i64 q) := by go_simp
  have x2 : w2.cell? ⟨w.heap.size, 2, none⟩ = some (.int .i64 0) := by go_simp
  have hbb : Below w.heap.size w w2 := (by repeat (first | exact Below.refl _ _ | assumption | refine Below.drew ?_ | refine below_drewN ?_ _ | refine Below.alloc ?_ (by first | omega | (simp; try omega)) _ | refine Below.setCell ?_ (by first | omega | (simp; try omega)) _ | (refine Below.trans ?_ (Below.mono (by assumption) (by first | omega | (simp; try omega))))))
  have h0 := h.to hbb
  have ee := eqSnapE
  clear hcw1 hfw1 hcw2 hfw2
  go_wp2_with fail
  go_loopw [8, 9, 10] (fun vi vk vn wr => ∃ i k j : Nat, vi = .int .i64 i ∧ vk = .int .i64 k ∧ vn = .int .i64 j ∧ j ≤ n ∧ i ≤ K.length ∧ k ≤ G.length ∧ Below w2.heap.size w2 wr ∧
    Hid (K.drop i = keptFrom g j (l.drop j)) ∧ Hid (G.drop k = goneFrom g j (l.drop j))) (fun _ _ vn _ => n - (intOf vn).toNat)
  case atStart => exact ⟨0, 0, 0, rfl, rfl, rfl, Nat.zero_le _, Nat.zero_le _, Nat.zero_le _, Below.refl _ _, hK, hG⟩
  case round =>
    obtain ⟨i, k, j, rfl, rfl, rfl, hj, hi, hk, hbr, hrK, hrG⟩ := hrel
    have r1' := r1.to hbr
    have r2' := r2.to hbr
    have h' := h0.to hbr
    have hbz := hbr.size
    by_cases hlt : j < n
    · obtain ⟨b, off, s, rfl, hb1, hx, q0, q1, q2⟩ := h'.snap hlt
      have hd := Lib.hid (drop_cons hx)
      clear hx
      cases hq : g j
      · obtain ⟨hi1, hKi, hK'⟩ := merge_kept hd.out hrK.out hq
        obtain ⟨b', off', rfl, hb2⟩ := r1'.addr hi1
        obtain ⟨p0, p1, p2⟩ := r1'.snapEx hKi
        have hG' := Lib.hid (merge_skip' hd.out hrG.out hq)
        replace hK' := Lib.hid hK'
        clear hKi
        have hss : s.same s = true := Snap.same_iff.2 rfl
        have hg1 : decide (i < K.length) = true := by simpa using hi1
        go_wp2
        go_quiet (fail)
        go_wp2
        go_roundw
        case rel => exact ⟨i + 1, k, j + 1, by go_num, rfl, by go_num, by omega, by omega, by omega, (by repeat (first | exact Below.refl _ _ | assumption | refine Below.drew ?_ | refine below_drewN ?_ _ | refine Below.alloc ?_ (by first | omega | (simp; try omega)) _ | refine Below.setCell ?_ (by first | omega | (simp; try omega)) _ | (refine Below.trans ?_ (Below.mono (by assumption) (by first | omega | (simp; try omega)))))), hK', hG'⟩
        case measure => simp [intOf]; omega
      · obtain ⟨hk1, hGi, hG'⟩ := merge_gone hd.out hrG.out hq
        obtain ⟨b', off', rfl, hb2⟩ := r2'.addr hk1
        obtain ⟨p0, p1, p2⟩ := r2'.snapEx hGi
        obtain ⟨hK', hne⟩ := merge_skip hri.out hd.out hrK.out hq
        replace hK' := Lib.hid hK'
        replace hG' := Lib.hid hG'
        replace hne := Lib.hid hne
        clear hGi
        have hss : s.same s = true := Snap.same_iff.2 rfl
        have hg2 : decide (k < G.length) = true := by simpa using hk1
        by_cases hi1 : i < K.length
        · obtain ⟨t, ht⟩ := getElem_some hi1
          obtain ⟨b'', off'', rfl, hb3⟩ := r1'.addr hi1
          obtain ⟨o0, o1, o2⟩ := r1'.snapEx ht
          have hts : t.same s = false := hne.out t ht
          clear ht
          have hg1 : decide (i < K.length) = true := by simpa using hi1
          go_wp2
          go_quiet (fail)
          go_wp2
          go_quiet (fail)
          go_wp2
          go_roundw
          case rel => exact ⟨i, k + 1, j + 1, rfl, by go_num, by go_num, by omega, by omega, by omega, (by repeat (first | exact Below.refl _ _ | assumption | refine Below.drew ?_ | refine below_drewN ?_ _ | refine Below.alloc ?_ (by first | omega | (simp; try omega)) _ | refine Below.setCell ?_ (by first | omega | (simp; try omega)) _ | (refine Below.trans ?_ (Below.mono (by assumption) (by first | omega | (simp; try omega)))))), hK', hG'⟩
          case measure => simp [intOf]; omega
        · have hg1 : decide (i < K.length) = false := by simpa using hi1
          go_wp2
          go_quiet (fail)
          go_wp2
          go_quiet (fail)
          go_wp2
          go_roundw
          case rel => exact ⟨i, k + 1, j + 1, rfl, by go_num, by go_num, by omega, by omega, by omega, (by repeat (first | exact Below.refl _ _ | assumption | refine Below.drew ?_ | refine below_drewN ?_ _ | refine Below.alloc ?_ (by first | omega | (simp; try omega)) _ | refine Below.setCell ?_ (by first | omega | (simp; try omega)) _ | (refine Below.trans ?_ (Below.mono (by assumption) (by first | omega | (simp; try omega)))))), hK', hG'⟩
          case measure => simp [intOf]; omega
    · obtain rfl : i = K.length := drop_end hi (by rw [hrK.out, List.drop_eq_nil_of_le (by have := hl.out; omega)]; rfl)
      obtain rfl : k = G.length := drop_end hk (by rw [hrG.out, List.drop_eq_nil_of_le (by have := hl.out; omega)]; rfl)
      have hbw : Below w.heap.size w wr := (by repeat (first | exact Below.refl _ _ | assumption | refine Below.drew ?_ | refine below_drewN ?_ _ | refine Below.alloc ?_ (by first | omega | (simp; try omega)) _ | refine Below.setCell ?_ (by first | omega | (simp; try omega)) _ | (refine Below.trans ?_ (Below.mono (by assumption) (by first | omega | (simp; try omega))))))
      have y0 := (hbr.cell (p := ⟨w.heap.size, 0, none⟩) hlw2).trans x0
      have y1 := (hbr.cell (p := ⟨w.heap.size, 1, none⟩) hlw2).trans x1
      have y2 := (hbr.cell (p := ⟨w.heap.size, 2, none⟩) hlw2).trans x2
      by_cases hn0 : n = 0
      · have hnz : ((n : Int) == 0) = true := by simpa using hn0
        replace hn0 := Lib.hid hn0
        go_wp2
        go_ret
        exact ⟨rfl, (by repeat (first | exact Below.refl _ _ | assumption | refine Below.drew ?_ | refine below_drewN ?_ _ | refine Below.alloc ?_ (by first | omega | (simp; try omega)) _ | refine Below.setCell ?_ (by first | omega | (simp; try omega)) _ | (refine Below.trans ?_ (Below.mono (by assumption) (by first | omega | (simp; try omega))))))⟩
      · have hnz : ((n : Int) == 0) = false := by simpa using hn0
        have hne : l ≠ [] := fun e => hn0 (by have := hl.out; rw [e] at this; simpa using this.symm)
        have hpos : 0 < n := by omega
        obtain ⟨⟨hKne, hlast⟩, hch3⟩ := hagain.out hne
        replace hch3 := Lib.hid hch3
        obtain ⟨b0, f0, rfl, hb0⟩ := h'.addr hpos
        obtain ⟨s0, hx0, u0, u1, u2⟩ := h'.snapAt hpos
        simp only [Nat.zero_mul, Nat.add_zero] at u0 u1 u2
        have hts0 := htime.out s0 (List.mem_of_getElem? hx0)
        have hnw := Lib.hid (newest_cons hx0 hts0.1)
        clear hx0
        obtain ⟨wo, rfl⟩ : ∃ wo : World, wo = wr := ⟨_, rfl⟩
        go_wp2_with fail
        go_loopw [11, 13] (fun vy vi wr => ∃ (m : Nat) (y : Int), vi = .int .i64 m ∧ vy = .int .i64 y ∧ m ≤ n ∧ Below wo.heap.size wo wr ∧ Hid (newestOf l = (l.drop m).foldl (fun m s => max m s.time) y)) (fun _ vi _ => n - (intOf vi).toNat)
        case atStart => exact ⟨0, s0.time, rfl, rfl, Nat.zero_le _, Below.refl _ _, hnw⟩
        case round =>
          obtain ⟨m, y, rfl, rfl, hm, hbo, hr⟩ := hrel
          have hoz := hbo.size
          by_cases hlt2 : m < n
          · obtain ⟨s', hx', v0, v1, v2⟩ := (h'.to hbo).snapAt hlt2
            have hd := Lib.hid (drop_cons hx')
            clear hx'
            have e4 : (if y < s'.time then s'.time else y) = max y s'.time := by rw [Int.max_def]; split <;> split <;> omega
            have e5 : Hid ((l.drop m).foldl (fun m s => max m s.time) y = (l.drop (m + 1)).foldl (fun m s => max m s.time) (max y s'.time)) := by rw [Hid, hd.out]; rfl
            go_wp2
            go_roundw
            case rel => exact ⟨m + 1, max y s'.time, by go_num, rfl, by omega, (by repeat (first | exact Below.refl _ _ | assumption | refine Below.drew ?_ | refine below_drewN ?_ _ | refine Below.alloc ?_ (by first | omega | (simp; try omega)) _ | refine Below.setCell ?_ (by first | omega | (simp; try omega)) _ | (refine Below.trans ?_ (Below.mono (by assumption) (by first | omega | (simp; try omega)))))), hr.out.trans e5.out⟩
            case measure => simp [intOf]; omega
          · have hyn : y = newestOf l := by rw [hr.out, List.drop_eq_nil_of_le (by have := hl.out; omega)]; rfl
            replace hyn := Lib.hid hyn
            have r1o := r1'.to hbo
            obtain ⟨wp, rfl⟩ : ∃ wp : World, wp = wr := ⟨_, rfl⟩
            go_wp2_with fail
            go_loopw [12, 14] (fun vs vi wr => ∃ (bb : Bool) (m : Nat), vs = .bool bb ∧ vi = .int .i64 m ∧ m ≤ K.length ∧ Below wp.heap.size wp wr ∧ Hid ((bb || (K.drop m).any fun s => decide (s.time = y)) = K.any fun s => decide (s.time = y))) (fun _ vi _ => K.length - (intOf vi).toNat)
            case atStart => exact ⟨false, 0, rfl, rfl, Nat.zero_le _, Below.refl _ _, rfl⟩
            case round =>
              obtain ⟨bb, m, rfl, rfl, hm, hbp, hr⟩ := hrel
              have hpz := hbp.size
              by_cases hlt3 : m < K.length
              · obtain ⟨t, ht⟩ := getElem_some hlt3
                obtain ⟨b5, f5, rfl, hb5⟩ := (r1o.to hbp).addr hlt3
                obtain ⟨v0, v1, v2⟩ := (r1o.to hbp).snapEx ht
                have hd := Lib.hid (drop_cons ht)
                clear ht
                cases bb
                · go_wp2
                  go_roundw
                  case rel => exact ⟨decide (t.time = y), m + 1, by first | rfl | simp, by go_num, by omega, (by repeat (first | exact Below.refl _ _ | assumption | refine Below.drew ?_ | refine below_drewN ?_ _ | refine Below.alloc ?_ (by first | omega | (simp; try omega)) _ | refine Below.setCell ?_ (by first | omega | (simp; try omega)) _ | (refine Below.trans ?_ (Below.mono (by assumption) (by first | omega | (simp; try omega)))))), by rw [Hid, ← hr.out, hd.out]; simp⟩
                  case measure => simp [intOf]; omega
                · go_wp2
                  go_roundw
                  case rel => exact ⟨true, m + 1, rfl, by go_num, by omega, (by repeat (first | exact Below.refl _ _ | assumption | refine Below.drew ?_ | refine below_drewN ?_ _ | refine Below.alloc ?_ (by first | omega | (simp; try omega)) _ | refine Below.setCell ?_ (by first | omega | (simp; try omega)) _ | (refine Below.trans ?_ (Below.mono (by assumption) (by first | omega | (simp; try omega)))))), by rw [Hid, ← hr.out]; simp⟩
                  case measure => simp [intOf]; omega
              · have hbK : bb = K.any fun s => decide (s.time = y) := by rw [← hr.out, List.drop_eq_nil_of_le (by omega)]; simp
                have hbt : Below w.heap.size w wr := (by repeat (first | exact Below.refl _ _ | assumption | refine Below.drew ?_ | refine below_drewN ?_ _ | refine Below.alloc ?_ (by first | omega | (simp; try omega)) _ | refine Below.setCell ?_ (by first | omega | (simp; try omega)) _ | (refine Below.trans ?_ (Below.mono (by assumption) (by first | omega | (simp; try omega))))))
                have t0 := (hbp.cell (p := ⟨w.heap.size, 0, none⟩) (by show w.heap.size < _; omega)).trans ((hbo.cell (p := ⟨w.heap.size, 0, none⟩) (by show w.heap.size < _; omega)).trans y0)
                have t1 := (hbp.cell (p := ⟨w.heap.size, 1, none⟩) (by show w.heap.size < _; omega)).trans ((hbo.cell (p := ⟨w.heap.size, 1, none⟩) (by show w.heap.size < _; omega)).trans y1)
                have t2 := (hbp.cell (p := ⟨w.heap.size, 2, none⟩) (by show w.heap.size < _; omega)).trans ((hbo.cell (p := ⟨w.heap.size, 2, none⟩) (by show w.heap.size < _; omega)).trans y2)
                have rK := r1o.to hbp
                have rL := (h'.to hbo).to hbp
                have hKp : 0 < K.length := List.length_pos_iff.2 hKne
                have hKl : ((K.length : Int) == 0) = false := by simp; exact hKne
                obtain ⟨u, hu⟩ := getElem_some (l := K) (i := K.length - 1) (by omega)
                obtain ⟨b6, f6, rfl, hb6⟩ := rK.addr hKp
                obtain ⟨v0, v1, v2⟩ := rK.snapEx hu
                have hu2 : l[n - 1]? = some u := by rw [← hu, hlast.out, hl.out]
                obtain ⟨z0, z1, z2⟩ := rL.snapEx hu2
                have huu : u.same u = true := Snap.same_iff.2 rfl
                have hen := eqSnap
                clear hu2 hu hbK
                replace hKne := Lib.hid hKne
                have hi0 : (0 : Int) ≤ (K.length : Int) - 1 := by omega
                have hi1 : (K.length : Int) - 1 < (K.length : Int) := by omega
                have hj0 : (0 : Int) ≤ (n : Int) - 1 := by omega
                have hj1 : (n : Int) - 1 < (n : Int) := by omega
                cases bb
                all_goals
                  go_wp2
                  go_quiet (fail)
                  go_wp2_with fail
                  refine (keep_Choose' (r := ⟨0, q, 0⟩) (rK.to (by repeat (first | exact Below.refl _ _ | assumption | refine Below.drew ?_ | refine below_drewN ?_ _ | refine Below.alloc ?_ (by first | omega | (simp; try omega)) _ | refine Below.setCell ?_ (by first | omega | (simp; try omega)) _ | (refine Below.trans ?_ (Below.mono (by assumption) (by first | omega | (simp; try omega))))))) (by simp; try omega) (by simp; try omega) hch3.out).mono ?_
                  rintro e w4 ⟨A3, c3, A4, c4, rfl, _, r3, r4, hbw4⟩
                  have hz4 := hbw4.size; (try simp at hz4)
                  go_wp2_with fail
                  refine (ref22_Same_self _ _ _ _ _ _ K _ (rK.to (by repeat (first | exact Below.refl _ _ | assumption | refine Below.drew ?_ | refine below_drewN ?_ _ | refine Below.alloc ?_ (by first | omega | (simp; try omega)) _ | refine Below.setCell ?_ (by first | omega | (simp; try omega)) _ | (refine Below.trans ?_ (Below.mono (by assumption) (by first | omega | (simp; try omega))))))) r3).mono ?_
                  rintro e w5 ⟨rfl, hbw5⟩
                  have hz5 := hbw5.size; (try simp at hz5)
                  go_wp2
                  go_ret
                  exact ⟨rfl, (by repeat (first | exact Below.refl _ _ | assumption | refine Below.drew ?_ | refine below_drewN ?_ _ | refine Below.alloc ?_ (by first | omega | (simp; try omega)) _ | refine Below.setCell ?_ (by first | omega | (simp; try omega)) _ | (refine Below.trans ?_ (Below.mono (by assumption) (by first | omega | (simp; try omega))))))⟩

include htime in
set_option maxHeartbeats 8000000 in
set_option maxRecDepth 100000 in
theorem keepEach_within (d : Int) (hd : 0 < d) (hd9 : d ≤ 9223372036854775807) (hch : Hid (choose l ⟨0, 0, d⟩ = (K, G, 0)))
    (hagain : Hid (l ≠ [] → Hid (∃ s ∈ K, s.time = newestOf l) ∧ choose K ⟨0, 0, d⟩ = (K, [], 0))) :
    Calls Try.prog 6 #[.slice A n c, .agg #[.int .i64 0, .int .i64 0, .int .i64 d]] w fun e w' => e = .returned (.bool true) ∧ Below w.heap.size w w' := by
  go_enter Try.func6, Try.ntmps6
  go_wp2_with (go_at_call 13; refine (awake_any _).mono ?_; rintro e w1 ⟨rfl, hbw1⟩; obtain ⟨hcw1, hfw1⟩ := bcell hbw1; (try simp only [World.size_drew, World.cell?_drew, World.frozen?_drew, World.heap_drewN, World.cell?_drewN, World.frozen?_drewN] at hcw1 hfw1); have hzw1 := hbw1.size; (try simp at hzw1); (try have hlw1 := (by omega : w.heap.size < w1.heap.size)); (try have hmw1 := (by omega : w.heap.size + 1 < w1.heap.size)); (try have hnw1 := (by omega : w.heap.size + 1 + 1 < w1.heap.size)))
  refine (keep_Choose' (r := ⟨0, 0, d⟩) (h.to (by repeat (first | exact Below.refl _ _ | assumption | refine Below.drew ?_ | refine below_drewN ?_ _ | refine Below.alloc ?_ (by first | omega | (simp; try omega)) _ | refine Below.setCell ?_ (by first | omega | (simp; try omega)) _ | (refine Below.trans ?_ (Below.mono (by assumption) (by first | omega | (simp; try omega))))))) (by simp; try omega) (by simp; try omega) hch.out).mono ?_
  rintro e w2 ⟨A1, c1, A2, c2, rfl, _, r1, r2, hbw2⟩
  obtain ⟨hcw2, hfw2⟩ := bcell hbw2; (try simp only [World.size_drew, World.cell?_drew, World.frozen?_drew, World.heap_drewN, World.cell?_drewN, World.frozen?_drewN] at hcw2 hfw2); have hzw2 := hbw2.size; (try simp at hzw2); (try have hlw2 := (by omega : w.heap.size < w2.heap.size)); (try have hmw2 := (by omega : w.heap.size + 1 < w2.heap.size)); (try have hnw2 := (by omega : w.heap.size + 1 + 1 < w2.heap.size))
  have x0 : w2.cell? ⟨w.heap.size, 0, none⟩ = some (.int .i64 0) := by go_simp
  have x1 : w2.cell? ⟨w.heap.size, 1, none⟩ = some (.int .i64 0) := by go_simp
  have x2 : w2.cell? ⟨w.heap.size, 2, none⟩ = some (.int .i64 d) := by go_simp
  have hbb : Below w.heap.size w w2 := (by repeat (first | exact Below.refl _ _ | assumption | refine Below.drew ?_ | refine below_drewN ?_ _ | refine Below.alloc ?_ (by first | omega | (simp; try omega)) _ | refine Below.setCell ?_ (by first | omega | (simp; try omega)) _ | (refine Below.trans ?_ (Below.mono (by assumption) (by first | omega | (simp; try omega))))))
  have h0 := h.to hbb
  have ee := eqSnapE
  clear hcw1 hfw1 hcw2 hfw2
  go_wp2_with fail
  go_loopw [8, 9, 10] (fun vi vk vn wr => ∃ i k j : Nat, vi = .int .i64 i ∧ vk = .int .i64 k ∧ vn = .int .i64 j ∧ j ≤ n ∧ i ≤ K.length ∧ k ≤ G.length ∧ Below w2.heap.size w2 wr ∧
    Hid (K.drop i = keptFrom g j (l.drop j)) ∧ Hid (G.drop k = goneFrom g j (l.drop j))) (fun _ _ vn _ => n - (intOf vn).toNat)
  case atStart => exact ⟨0, 0, 0, rfl, rfl, rfl, Nat.zero_le _, Nat.zero_le _, Nat.zero_le _, Below.refl _ _, hK, hG⟩
  case round =>
    obtain ⟨i, k, j, rfl, rfl, rfl, hj, hi, hk, hbr, hrK, hrG⟩ := hrel
    have r1' := r1.to hbr
    have r2' := r2.to hbr
    have h' := h0.to hbr
    have hbz := hbr.size
    by_cases hlt : j < n
    · obtain ⟨b, off, s, rfl, hb1, hx, q0, q1, q2⟩ := h'.snap hlt
      have hd := Lib.hid (drop_cons hx)
      clear hx
      cases hq : g j
      · obtain ⟨hi1, hKi, hK'⟩ := merge_kept hd.out hrK.out hq
        obtain ⟨b', off', rfl, hb2⟩ := r1'.addr hi1
        obtain ⟨p0, p1, p2⟩ := r1'.snapEx hKi
        have hG' := Lib.hid (merge_skip' hd.out hrG.out hq)
        replace hK' := Lib.hid hK'
        clear hKi
        have hss : s.same s = true := Snap.same_iff.2 rfl
        have hg1 : decide (i < K.length) = true := by simpa using hi1
        go_wp2
        go_quiet (fail)
        go_wp2
        go_roundw
        case rel => exact ⟨i + 1, k, j + 1, by go_num, rfl, by go_num, by omega, by omega, by omega, (by repeat (first | exact Below.refl _ _ | assumption | refine Below.drew ?_ | refine below_drewN ?_ _ | refine Below.alloc ?_ (by first | omega | (simp; try omega)) _ | refine Below.setCell ?_ (by first | omega | (simp; try omega)) _ | (refine Below.trans ?_ (Below.mono (by assumption) (by first | omega | (simp; try omega)))))), hK', hG'⟩
        case measure => simp [intOf]; omega
      · obtain ⟨hk1, hGi, hG'⟩ := merge_gone hd.out hrG.out hq
        obtain ⟨b', off', rfl, hb2⟩ := r2'.addr hk1
        obtain ⟨p0, p1, p2⟩ := r2'.snapEx hGi
        obtain ⟨hK', hne⟩ := merge_skip hri.out hd.out hrK.out hq
        replace hK' := Lib.hid hK'
        replace hG' := Lib.hid hG'
        replace hne := Lib.hid hne
        clear hGi
        have hss : s.same s = true := Snap.same_iff.2 rfl
        have hg2 : decide (k < G.length) = true := by simpa using hk1
        by_cases hi1 : i < K.length
        · obtain ⟨t, ht⟩ := getElem_some hi1
          obtain ⟨b'', off'', rfl, hb3⟩ := r1'.addr hi1
          obtain ⟨o0, o1, o2⟩ := r1'.snapEx ht
          have hts : t.same s = false := hne.out t ht
          clear ht
          have hg1 : decide (i < K.length) = true := by simpa using hi1
          go_wp2
          go_quiet (fail)
          go_wp2
          go_quiet (fail)
          go_wp2
          go_roundw
          case rel => exact ⟨i, k + 1, j + 1, rfl, by go_num, by go_num, by omega, by omega, by omega, (by repeat (first | exact Below.refl _ _ | assumption | refine Below.drew ?_ | refine below_drewN ?_ _ | refine Below.alloc ?_ (by first | omega | (simp; try omega)) _ | refine Below.setCell ?_ (by first | omega | (simp; try omega)) _ | (refine Below.trans ?_ (Below.mono (by assumption) (by first | omega | (simp; try omega)))))), hK', hG'⟩
          case measure => simp [intOf]; omega
        · have hg1 : decide (i < K.length) = false := by simpa using hi1
          go_wp2
          go_quiet (fail)
          go_wp2
          go_quiet (fail)
          go_wp2
          go_roundw
          case rel => exact ⟨i, k + 1, j + 1, rfl, by go_num, by go_num, by omega, by omega, by omega, (by repeat (first | exact Below.refl _ _ | assumption | refine Below.drew ?_ | refine below_drewN ?_ _ | refine Below.alloc ?_ (by first | omega | (simp; try omega)) _ | refine Below.setCell ?_ (by first | omega | (simp; try omega)) _ | (refine Below.trans ?_ (Below.mono (by assumption) (by first | omega | (simp; try omega)))))), hK', hG'⟩
          case measure => simp [intOf]; omega
    · obtain rfl : i = K.length := drop_end hi (by rw [hrK.out, List.drop_eq_nil_of_le (by have := hl.out; omega)]; rfl)
      obtain rfl : k = G.length := drop_end hk (by rw [hrG.out, List.drop_eq_nil_of_le (by have := hl.out; omega)]; rfl)
      have hbw : Below w.heap.size w wr := (by repeat (first | exact Below.refl _ _ | assumption | refine Below.drew ?_ | refine below_drewN ?_ _ | refine Below.alloc ?_ (by first | omega | (simp; try omega)) _ | refine Below.setCell ?_ (by first | omega | (simp; try omega)) _ | (refine Below.trans ?_ (Below.mono (by assumption) (by first | omega | (simp; try omega))))))
      have y0 := (hbr.cell (p := ⟨w.heap.size, 0, none⟩) hlw2).trans x0
      have y1 := (hbr.cell (p := ⟨w.heap.size, 1, none⟩) hlw2).trans x1
      have y2 := (hbr.cell (p := ⟨w.heap.size, 2, none⟩) hlw2).trans x2
      by_cases hn0 : n = 0
      · have hnz : ((n : Int) == 0) = true := by simpa using hn0
        replace hn0 := Lib.hid hn0
        go_wp2
        go_ret
        exact ⟨rfl, (by repeat (first | exact Below.refl _ _ | assumption | refine Below.drew ?_ | refine below_drewN ?_ _ | refine Below.alloc ?_ (by first | omega | (simp; try omega)) _ | refine Below.setCell ?_ (by first | omega | (simp; try omega)) _ | (refine Below.trans ?_ (Below.mono (by assumption) (by first | omega | (simp; try omega))))))⟩
      · have hnz : ((n : Int) == 0) = false := by simpa using hn0
        have hne : l ≠ [] := fun e => hn0 (by have := hl.out; rw [e] at this; simpa using this.symm)
        have hpos : 0 < n := by omega
        obtain ⟨hin, hch3⟩ := hagain.out hne
        replace hch3 := Lib.hid hch3
        obtain ⟨b0, f0, rfl, hb0⟩ := h'.addr hpos
        obtain ⟨s0, hx0, u0, u1, u2⟩ := h'.snapAt hpos
        simp only [Nat.zero_mul, Nat.add_zero] at u0 u1 u2
        have hts0 := htime.out s0 (List.mem_of_getElem? hx0)
        have hnw := Lib.hid (newest_cons hx0 hts0.1)
        clear hx0
        obtain ⟨wo, rfl⟩ : ∃ wo : World, wo = wr := ⟨_, rfl⟩
        go_wp2_with fail
        go_loopw [11, 13] (fun vy vi wr => ∃ (m : Nat) (y : Int), vi = .int .i64 m ∧ vy = .int .i64 y ∧ m ≤ n ∧ Below wo.heap.size wo wr ∧ Hid (newestOf l = (l.drop m).foldl (fun m s => max m s.time) y)) (fun _ vi _ => n - (intOf vi).toNat)
        case atStart => exact ⟨0, s0.time, rfl, rfl, Nat.zero_le _, Below.refl _ _, hnw⟩
        case round =>
          obtain ⟨m, y, rfl, rfl, hm, hbo, hr⟩ := hrel
          have hoz := hbo.size
          by_cases hlt2 : m < n
          · obtain ⟨s', hx', v0, v1, v2⟩ := (h'.to hbo).snapAt hlt2
            have hd := Lib.hid (drop_cons hx')
            clear hx'
            have e4 : (if y < s'.time then s'.time else y) = max y s'.time := by rw [Int.max_def]; split <;> split <;> omega
            have e5 : Hid ((l.drop m).foldl (fun m s => max m s.time) y = (l.drop (m + 1)).foldl (fun m s => max m s.time) (max y s'.time)) := by rw [Hid, hd.out]; rfl
            go_wp2
            go_roundw
            case rel => exact ⟨m + 1, max y s'.time, by go_num, rfl, by omega, (by repeat (first | exact Below.refl _ _ | assumption | refine Below.drew ?_ | refine below_drewN ?_ _ | refine Below.alloc ?_ (by first | omega | (simp; try omega)) _ | refine Below.setCell ?_ (by first | omega | (simp; try omega)) _ | (refine Below.trans ?_ (Below.mono (by assumption) (by first | omega | (simp; try omega)))))), hr.out.trans e5.out⟩
            case measure => simp [intOf]; omega
          · have hyn : y = newestOf l := by rw [hr.out, List.drop_eq_nil_of_le (by have := hl.out; omega)]; rfl
            replace hyn := Lib.hid hyn
            have r1o := r1'.to hbo
            obtain ⟨wp, rfl⟩ : ∃ wp : World, wp = wr := ⟨_, rfl⟩
            go_wp2_with fail
            go_loopw [12, 14] (fun vs vi wr => ∃ (bb : Bool) (m : Nat), vs = .bool bb ∧ vi = .int .i64 m ∧ m ≤ K.length ∧ Below wp.heap.size wp wr ∧ Hid ((bb || (K.drop m).any fun s => decide (s.time = y)) = K.any fun s => decide (s.time = y))) (fun _ vi _ => K.length - (intOf vi).toNat)
            case atStart => exact ⟨false, 0, rfl, rfl, Nat.zero_le _, Below.refl _ _, rfl⟩
            case round =>
              obtain ⟨bb, m, rfl, rfl, hm, hbp, hr⟩ := hrel
              have hpz := hbp.size
              by_cases hlt3 : m < K.length
              · obtain ⟨t, ht⟩ := getElem_some hlt3
                obtain ⟨b5, f5, rfl, hb5⟩ := (r1o.to hbp).addr hlt3
                obtain ⟨v0, v1, v2⟩ := (r1o.to hbp).snapEx ht
                have hd := Lib.hid (drop_cons ht)
                clear ht
                cases bb
                · go_wp2
                  go_roundw
                  case rel => exact ⟨decide (t.time = y), m + 1, by first | rfl | simp, by go_num, by omega, (by repeat (first | exact Below.refl _ _ | assumption | refine Below.drew ?_ | refine below_drewN ?_ _ | refine Below.alloc ?_ (by first | omega | (simp; try omega)) _ | refine Below.setCell ?_ (by first | omega | (simp; try omega)) _ | (refine Below.trans ?_ (Below.mono (by assumption) (by first | omega | (simp; try omega)))))), by rw [Hid, ← hr.out, hd.out]; simp⟩
                  case measure => simp [intOf]; omega
                · go_wp2
                  go_roundw
                  case rel => exact ⟨true, m + 1, rfl, by go_num, by omega, (by repeat (first | exact Below.refl _ _ | assumption | refine Below.drew ?_ | refine below_drewN ?_ _ | refine Below.alloc ?_ (by first | omega | (simp; try omega)) _ | refine Below.setCell ?_ (by first | omega | (simp; try omega)) _ | (refine Below.trans ?_ (Below.mono (by assumption) (by first | omega | (simp; try omega)))))), by rw [Hid, ← hr.out]; simp⟩
                  case measure => simp [intOf]; omega
              · have hbK : bb = K.any fun s => decide (s.time = y) := by rw [← hr.out, List.drop_eq_nil_of_le (by omega)]; simp
                have hbt : Below w.heap.size w wr := (by repeat (first | exact Below.refl _ _ | assumption | refine Below.drew ?_ | refine below_drewN ?_ _ | refine Below.alloc ?_ (by first | omega | (simp; try omega)) _ | refine Below.setCell ?_ (by first | omega | (simp; try omega)) _ | (refine Below.trans ?_ (Below.mono (by assumption) (by first | omega | (simp; try omega))))))
                have t0 := (hbp.cell (p := ⟨w.heap.size, 0, none⟩) (by show w.heap.size < _; omega)).trans ((hbo.cell (p := ⟨w.heap.size, 0, none⟩) (by show w.heap.size < _; omega)).trans y0)
                have t1 := (hbp.cell (p := ⟨w.heap.size, 1, none⟩) (by show w.heap.size < _; omega)).trans ((hbo.cell (p := ⟨w.heap.size, 1, none⟩) (by show w.heap.size < _; omega)).trans y1)
                have t2 := (hbp.cell (p := ⟨w.heap.size, 2, none⟩) (by show w.heap.size < _; omega)).trans ((hbo.cell (p := ⟨w.heap.size, 2, none⟩) (by show w.heap.size < _; omega)).trans y2)
                have rK := r1o.to hbp
                have rL := (h'.to hbo).to hbp
                have hbt : bb = true := by
                  rw [hbK, List.any_eq_true]
                  obtain ⟨t, ht, hte⟩ := hin.out
                  exact ⟨t, ht, by rw [hyn.out]; simpa using hte⟩
                subst hbt
                clear hbK
                go_wp2
                go_quiet (fail)
                go_wp2_with fail
                refine (keep_Choose' (r := ⟨0, 0, d⟩) (rK.to (by repeat (first | exact Below.refl _ _ | assumption | refine Below.drew ?_ | refine below_drewN ?_ _ | refine Below.alloc ?_ (by first | omega | (simp; try omega)) _ | refine Below.setCell ?_ (by first | omega | (simp; try omega)) _ | (refine Below.trans ?_ (Below.mono (by assumption) (by first | omega | (simp; try omega))))))) (by simp; try omega) (by simp; try omega) hch3.out).mono ?_
                rintro e w4 ⟨A3, c3, A4, c4, rfl, _, r3, r4, hbw4⟩
                have hz4 := hbw4.size; (try simp at hz4)
                go_wp2_with fail
                refine (ref22_Same_self _ _ _ _ _ _ K _ (rK.to (by repeat (first | exact Below.refl _ _ | assumption | refine Below.drew ?_ | refine below_drewN ?_ _ | refine Below.alloc ?_ (by first | omega | (simp; try omega)) _ | refine Below.setCell ?_ (by first | omega | (simp; try omega)) _ | (refine Below.trans ?_ (Below.mono (by assumption) (by first | omega | (simp; try omega))))))) r3).mono ?_
                rintro e w5 ⟨rfl, hbw5⟩
                have hz5 := hbw5.size; (try simp at hz5)
                go_wp2
                go_ret
                exact ⟨rfl, (by repeat (first | exact Below.refl _ _ | assumption | refine Below.drew ?_ | refine below_drewN ?_ _ | refine Below.alloc ?_ (by first | omega | (simp; try omega)) _ | refine Below.setCell ?_ (by first | omega | (simp; try omega)) _ | (refine Below.trans ?_ (Below.mono (by assumption) (by first | omega | (simp; try omega))))))⟩
end
end Go.Proofs.Ytgopkjgkjjllfaa
