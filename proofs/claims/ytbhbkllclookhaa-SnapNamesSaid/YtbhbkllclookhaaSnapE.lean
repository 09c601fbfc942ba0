/-
  The contracts of slices.Delete at snapshots (one element) and of snap.Drop.
-/
import Derived.Test.YtbhbkllclookhaaSnapD
import Derived.Test.YtbhbkllclookhaaSnapP
import Derived.Lib.SliceRun
import Derived.Lib.EndianMore
namespace Go.Proofs.Ytbhbkllclookhaa
open Go.RowKit

/-- 'clear(s)', s a slice of one element of some cells. -/
theorem run_clear_one {P : Program} (w : World) (t e ty : TypeId) (z : Value) (cs : List Value) (ht : P.underlying t = some (.slice e)) (hv : ∀ w, (zeroValue e).run P w = .ok z w) (hz : (Builtin.zeroCells z.cells 1).toList = cs) (h1 : ∀ u ∈ cs, u.oneCell' = true) (b o c : Nat)
    (hc : ∀ j, j < cs.length → (w.cell? ⟨b, o + j, none⟩).isSome = true) (hf : ∀ j, j < cs.length → w.frozen? ⟨b, o + j, none⟩ = false) :
    (Builtin.clear_ #[t] ty #[.slice (some ⟨b, o, none⟩) 1 c]).run P w = .ok (.tuple #[]) (w.setCells b o cs) := by
  have hst := run_storeCells_cells (P := P) b o cs 0 w (by simpa using hc) (by simpa using hf) h1
  simp only [Nat.add_zero] at hst
  simp [Builtin.clear_, run_underlying ht, hv, hz, hst]

theorem size_setCells (b : Nat) : ∀ (vs : List Value) (o : Nat) (w : World), (w.setCells b o vs).heap.size = w.heap.size
  | [], _, _ => rfl
  | v :: r, o, w => by rw [World.setCells, size_setCells b r]; simp
theorem some_setCells (b : Nat) (vs : List Value) (o : Nat) (w : World) (x : Addr) (h : (w.cell? x).isSome = true) : ((w.setCells b o vs).cell? x).isSome = true := World.isSome_setCells b vs o w x h

/-- One element of k cells is taken out in place: what is left, in cells. -/
theorem erase_cells {α : Type} {k : Nat} {enc : α → List Value} (hk : ∀ x, (enc x).length = k) {w : World} {b off n i : Nat} {l : List α} (hl : l.length = n)
    (hc : ∀ i x, l[i]? = some x → ∀ j v, (enc x)[j]? = some v → w.cell? ⟨b, off + i * k + j, none⟩ = some v) (hi : i < n) :
    ∀ i' x, (l.eraseIdx i)[i']? = some x → ∀ j v, (enc x)[j]? = some v → (w.setCells b (off + i * k) ((l.drop (i + 1)).flatMap enc)).cell? ⟨b, off + i' * k + j, none⟩ = some v := by
  intro i' x hx j v hv
  have hj : j < k := by rw [← hk x]; exact (List.getElem?_eq_some_iff.1 hv).1
  have hfl : ((l.drop (i + 1)).flatMap enc).length = (n - (i + 1)) * k := by rw [flat_len hk, List.length_drop, hl]
  rw [List.getElem?_eraseIdx] at hx
  by_cases h : i' < i
  · rw [if_pos h] at hx
    have hm : (i' + 1) * k ≤ i * k := Nat.mul_le_mul_right _ (by omega)
    rw [Nat.add_mul] at hm
    rw [World.cell?_setCells_out b _ _ w _ (fun _ _ => .inl (by show off + i' * k + j < off + i * k; omega))]
    exact hc i' x hx j v hv
  · rw [if_neg h] at hx
    have hn : i' + 1 < n := by rw [← hl]; exact (List.getElem?_eq_some_iff.1 hx).1
    have hx' : (l.drop (i + 1))[i' - i]? = some x := by rw [List.getElem?_drop, show i + 1 + (i' - i) = i' + 1 from by omega]; exact hx
    have hfa := flat_at hk (l.drop (i + 1)) (i' - i) x hx' j v hv
    have hlt : (i' - i) * k + j < ((l.drop (i + 1)).flatMap enc).length := (List.getElem?_eq_some_iff.1 hfa).1
    have ea : off + i' * k + j = off + i * k + ((i' - i) * k + j) := by
      have : i' * k = i * k + (i' - i) * k := by rw [← Nat.add_mul, show i + (i' - i) = i' from by omega]
      omega
    rw [ea, World.cell?_setCells_in b _ _ w ?_ _ hlt]
    · have := (List.getElem?_eq_some_iff.1 hfa).2
      rw [this]
    · intro t ht
      rw [hfl] at ht
      have hk0 : 0 < k := by omega
      have h1 : i + t / k < l.length := by
        have : t / k < n - (i + 1) := by rw [Nat.div_lt_iff_lt_mul hk0]; exact ht
        omega
      have hx := List.getElem?_eq_getElem h1
      have hm : t % k < (enc l[i + t / k]).length := by rw [hk]; exact Nat.mod_lt _ hk0
      have hv := List.getElem?_eq_getElem hm
      have hq := hc _ _ hx _ _ hv
      rw [show off + (i + t / k) * k + t % k = off + i * k + t from by
        have := Nat.div_add_mod t k
        rw [Nat.mul_comm] at this
        rw [Nat.add_mul]
        omega] at hq
      rw [hq]
      rfl

theorem Snap.zcells : (Builtin.zeroCells (Value.agg #[.int .i64 0, .int .i64 0, .string ⟨#[]⟩]).cells 1).toList = [.int .i64 0, .int .i64 0, .string ⟨#[]⟩] := by kernel_rfl
theorem Snap.zrun (w : World) : (zeroValue 24).run Try.prog w = .ok (.agg #[.int .i64 0, .int .i64 0, .string ⟨#[]⟩]) w := by kernel_rfl
theorem Snap.zone : ∀ u ∈ [Value.int .i64 0, .int .i64 0, .string ⟨#[]⟩], u.oneCell' = true := by
  intro u hu
  simp at hu
  rcases hu with rfl | rfl | rfl <;> rfl

set_option maxHeartbeats 2000000 in
set_option maxRecDepth 100000 in
theorem delete_snap (b off n cap i : Nat) (l : List Snap) (w : World) (h : SnapsAt w w.heap.size (some ⟨b, off, none⟩) n l) (hf : ∀ j, j < n * 3 → w.frozen? ⟨b, off + j, none⟩ = false) (hcap : n ≤ cap) (hm : cap ≤ 9223372036854775807) (hi : i < n) :
    Calls Try.prog 60 #[.slice (some ⟨b, off, none⟩) n cap, .int .i64 i, .int .i64 ((i : Int) + 1)] w fun e w' => e = .returned (.slice (some ⟨b, off, none⟩) (n - 1) cap) ∧ SnapsAt w' w'.heap.size (some ⟨b, off, none⟩) (n - 1) (l.eraseIdx i) ∧ Below b w w' ∧ (∀ p, w'.frozen? p = w.frozen? p) := by
  have hl := h.1
  have hn := h.2.1
  obtain ⟨hbl, hc⟩ : b < w.heap.size ∧ ∀ i x, l[i]? = some x → ∀ j v, (Snap.cells x)[j]? = some v → w.cell? ⟨b, off + i * 3 + j, none⟩ = some v := by
    obtain ⟨_, _, e, hb, hc⟩ := h.2.2 (by omega)
    simp only [Option.some.injEq, Addr.mk.injEq] at e
    obtain ⟨rfl, rfl, _⟩ := e
    exact ⟨hb, hc⟩
  have hsome : ∀ j, j < n * 3 → (w.cell? ⟨b, off + j, none⟩).isSome = true := by
    intro j hj
    have hx := List.getElem?_eq_getElem (l := l) (i := j / 3) (by omega)
    have hv := List.getElem?_eq_getElem (l := Snap.cells l[j / 3]) (i := j % 3) (by rw [Snap.len]; omega)
    have hq := hc _ _ hx _ _ hv
    rw [show off + j / 3 * 3 + j % 3 = off + j from by omega] at hq
    rw [hq]; rfl
  obtain ⟨news, hnews⟩ : ∃ news, news = (l.drop (i + 1)).flatMap Snap.cells := ⟨_, rfl⟩
  have hlen : news.length = (n - (i + 1)) * 3 := by rw [hnews, flat_len Snap.len, List.length_drop, hl]
  have hsrcR : SnapsAt w w.heap.size (if cap = i + 1 then some ⟨b, off, none⟩ else some ⟨b, off + (i + 1) * 3, none⟩) (n - (i + 1)) (l.drop (i + 1)) := by
    refine ⟨by simp [hl], by omega, fun hp => ⟨b, off + (i + 1) * 3, by rw [if_neg (by omega)], hbl, fun t x hx j v hv => ?_⟩⟩
    rw [List.getElem?_drop] at hx
    have := hc _ x hx j v hv
    rwa [show off + (i + 1) * 3 + t * 3 + j = off + (i + 1 + t) * 3 + j from by omega]
  obtain ⟨A, hA, hsrc⟩ : ∃ A : Addr, (if cap = i + 1 then (some ⟨b, off, none⟩ : Option Addr) else some ⟨b, off + (i + 1) * 3, none⟩) = some A ∧ Hid (∀ t u, news[t]? = some u → w.drew.cell? (A.add t) = some u) := by
    have hr := hsrcR.reads Snap.len (by omega)
    by_cases hp : cap = i + 1
    · refine ⟨⟨b, off, none⟩, by rw [if_pos hp], fun t u hu => ?_⟩
      have := (List.getElem?_eq_some_iff.1 hu).1
      omega
    · rw [if_neg hp] at hr ⊢
      refine ⟨_, rfl, fun t u hu => ?_⟩
      rw [hnews] at hu
      have := (List.getElem?_eq_some_iff.1 hu).1
      rw [← hnews, hlen] at this
      obtain ⟨ad, e, _, hq⟩ := hr.2 (by omega)
      injection e with e
      subst e
      exact hq t u hu
  have s1 : Hid (news.length = (n - (i + 1)) * 3) := hlen
  have s2 : Hid (∀ u ∈ news, u.oneCell' = true) := by rw [hnews]; exact snap_cells_one _
  have s3 : Hid (∀ t, t < news.length → (w.drew.cell? ⟨b, off + i * 3 + t, none⟩).isSome = true ∧ w.drew.frozen? ⟨b, off + i * 3 + t, none⟩ = false) := by
    intro t ht
    rw [hlen] at ht
    rw [show off + i * 3 + t = off + (i * 3 + t) from by omega]
    exact ⟨hsome _ (by omega), hf _ (by omega)⟩
  obtain ⟨W1, hW1⟩ : ∃ W1, W1 = w.drew.setCells b (off + i * 3) news := ⟨_, rfl⟩
  obtain ⟨m, hm'⟩ : ∃ m, m = i + (n - (i + 1)) := ⟨_, rfl⟩
  have hmn : m + 1 = n := by omega
  have hcl : ∀ ty, (Builtin.clear_ #[22] ty #[.slice (some ⟨b, off + m * 3, none⟩) 1 (cap - m)]).run Try.prog W1 = .ok (.tuple #[]) (W1.setCells b (off + m * 3) [.int .i64 0, .int .i64 0, .string ⟨#[]⟩]) :=
    fun ty => run_clear_one W1 _ _ ty _ _ Try.underlying22 Snap.zrun Snap.zcells Snap.zone b _ _
      (fun j hj => by rw [hW1]; refine some_setCells _ _ _ _ _ ?_; rw [show off + m * 3 + j = off + (m * 3 + j) from by omega]; exact hsome _ (by simp at hj; omega))
      (fun j hj => by rw [hW1, World.frozen?_setCells, show off + m * 3 + j = off + (m * 3 + j) from by omega]; exact hf _ (by simp at hj; omega))
  have hfin : Hid (∀ t x, (l.eraseIdx i)[t]? = some x → ∀ j v, (Snap.cells x)[j]? = some v → (W1.setCells b (off + m * 3) [.int .i64 0, .int .i64 0, .string ⟨#[]⟩]).cell? ⟨b, off + t * 3 + j, none⟩ = some v) := by
    intro t x hx j v hv
    have ht := (List.getElem?_eq_some_iff.1 hx).1
    have hj := (List.getElem?_eq_some_iff.1 hv).1
    rw [Snap.len] at hj
    rw [List.length_eraseIdx, hl, if_pos hi] at ht
    rw [World.cell?_setCells_out b _ _ _ _ (fun _ _ => .inl (by show off + t * 3 + j < off + m * 3; omega)), hW1, hnews]
    exact erase_cells Snap.len (w := w.drew) hl hc hi t x hx j v hv
  have hW : Hid (W1 = w.drew.setCells b (off + i * 3) news) := hW1
  have hic : i ≤ cap := by omega
  have g0 : (0 : Int) ≤ (i : Int) + 1 := by omega
  have g1 : (i : Int) + 1 ≤ (n : Int) := by omega
  have g2 : (i : Int) ≤ (n : Int) := by omega
  have hjc : i + 1 ≤ cap := by omega
  have hle : (l.eraseIdx i).length = n - 1 := by rw [List.length_eraseIdx, hl, if_pos hi]
  obtain rfl : n = m + 1 := by omega
  clear hmn hm'
  have g3 : i ≤ m := by omega
  have hm' : m = i + (m - i) := by omega
  replace hm' := Lib.hid hm'
  replace s1 : Hid (news.length = (m - i) * 3) := by rw [show m - i = m + 1 - (i + 1) by omega]; exact s1
  replace hle := Lib.hid hle
  replace hbl := Lib.hid hbl
  replace hl := Lib.hid hl
  clear hW1 hc hsome hnews hlen hsrcR h hf
  go_enter Try.func60, Try.ntmps60
  go_wp2_with fail
  obtain ⟨i0, hi0, hz0, hz1, hz2⟩ := info3 Snap.info
  go_region_law (refine step_append_room (by rfl) (.tmp 22) (.tmp 25) 22 (by rfl) 24 i0 3 Try.underlying22 hi0 hz1 b off i cap (by simp [Act.eval, Act.put]) A (m - i) (cap - (i + 1)) news (by simp [Act.eval, Act.put, hA]) s1.out hsrc.out s2.out (by omega) s3.out ?_; rw [← hW.out, ← hm'.out])
  go_wp2
  go_ret
  refine ⟨by rw [Nat.add_sub_cancel]; rfl, ⟨hle.out, by omega, fun _ => ⟨b, off, rfl, ?_, hfin.out⟩⟩, ?_, fun p => ?_⟩
  · rw [size_setCells, hW.out, size_setCells]; exact hbl.out
  · rw [hW.out]; exact ((Below.refl _ _).drew.trans (Lib.below_setCells_w (Nat.le_refl _) _ _ _)).trans (Lib.below_setCells_w (Nat.le_refl _) _ _ _)
  · rw [World.frozen?_setCells, hW.out, World.frozen?_setCells]; rfl

theorem erase_filter : ∀ {l : List Snap} {y : Int} {m : Nat} {s : Snap}, rising y l = true → l[m]? = some s → l.eraseIdx m = l.filter fun t => t.id != s.id
  | [], _, _, _, _, h => by simp at h
  | x :: l, y, 0, s, hr, h => by
    simp at h
    subst h
    simp [rising] at hr
    have hg := rising_gt hr.2
    simp only [List.eraseIdx_zero, List.tail_cons, List.filter_cons, bne_self_eq_false, Bool.false_eq_true, if_false]
    rw [List.filter_eq_self.2]
    intro t ht
    have := hg t ht
    simp; omega
  | x :: l, y, m + 1, s, hr, h => by
    simp at h
    simp [rising] at hr
    have hg := rising_gt hr.2 s (List.mem_of_getElem? h)
    rw [List.eraseIdx_cons_succ, erase_filter hr.2 h, List.filter_cons, if_pos (by simp; omega)]

/-- What Find and Drop answer. -/
def findRes (l : List Snap) (id : Int) : Snap × Int :=
  if mayL l then match l.find? (fun s => s.id == id) with
    | some s => (s, 0)
    | none => (Snap.zero, 5) else (Snap.zero, 4)
def dropRes (l : List Snap) (id : Int) : List Snap × Int :=
  if mayL l then if l.any (fun s => s.id == id) then (l.filter (fun s => s.id != id), 0) else ([], 5) else ([], 4)

theorem mayL_rising {l : List Snap} (h : mayL l = true) : rising 0 l = true := by simp [mayL] at h; exact h.1
theorem find_of_at {l : List Snap} {m : Nat} {s : Snap} (hm : mayL l = true) (hx : l[m]? = some s) : findRes l s.id = (s, 0) := by
  have hf : l.find? (fun t => t.id == s.id) = some s := by
    rw [List.find?_eq_some_iff_getElem]
    obtain ⟨hlt, hs⟩ := List.getElem?_eq_some_iff.1 hx
    refine ⟨by simp, m, hlt, hs, fun j hj => ?_⟩
    have := rising_at (mayL_rising hm) (List.getElem?_eq_getElem (by omega : j < l.length)) hx hj
    simp; omega
  simp [findRes, hm, hf]
theorem find_none {l : List Snap} {id : Int} (hm : mayL l = true) (hno : ∀ s ∈ l, s.id ≠ id) : findRes l id = (Snap.zero, 5) := by
  have hf : l.find? (fun t => t.id == id) = none := by
    rw [List.find?_eq_none]
    intro s hs
    simpa using hno s hs
  simp [findRes, hm, hf]
theorem drop_of_at {l : List Snap} {m : Nat} {s : Snap} (hm : mayL l = true) (hx : l[m]? = some s) : dropRes l s.id = (l.eraseIdx m, 0) := by
  have ha : l.any (fun t => t.id == s.id) = true := by
    rw [List.any_eq_true]
    exact ⟨s, List.mem_of_getElem? hx, by simp⟩
  simp [dropRes, hm, ha, erase_filter (mayL_rising hm) hx]
theorem drop_none' {l : List Snap} {id : Int} (hm : mayL l = true) (hno : ∀ s ∈ l, s.id ≠ id) : dropRes l id = ([], 5) := by
  have ha : l.any (fun t => t.id == id) = false := by
    rw [List.any_eq_false]
    intro s hs
    simpa using hno s hs
  simp [dropRes, hm, ha]

/-- The cells of a slice of n elements of k cells each lie in a block from base on and may be written. -/
def Free (k : Nat) (w : World) (base : Nat) (A : Option Addr) (n : Nat) : Prop := 0 < n → ∃ b off, A = some ⟨b, off, none⟩ ∧ base ≤ b ∧ ∀ j, j < n * k → w.frozen? ⟨b, off + j, none⟩ = false
theorem Free.none_ {k : Nat} {w : World} {base : Nat} {A : Option Addr} : Free k w base A 0 := fun h => absurd h (by omega)

theorem snap_Find' (A : Option Addr) (n c : Nat) (l : List Snap) (w : World) (h : SnapsAt w w.heap.size A n l) (id : Int) :
    Calls Try.prog 20 #[.slice A n c, .int .i64 id] w fun e w' => e = .returned (.tuple #[(findRes l id).1.agg, .int .i64 (findRes l id).2]) ∧ Below w.heap.size w w' := by
  refine (snap_Find A n c l w h id).mono ?_
  rintro e w' ⟨m, z, s, rfl, hr, h0, h1, hb⟩
  refine ⟨?_, hb⟩
  rcases hr with ⟨hm, rfl, rfl⟩ | ⟨hm, hno, rfl, rfl⟩ | ⟨hm, t, hx, rfl, rfl⟩
  · rw [h1 (by decide)]; simp [findRes, hm]
  · rw [h1 (by decide), find_none hm hno]
  · have := h0 rfl
    rw [hx] at this
    injection this with this
    subst this
    rw [find_of_at hm hx]

set_option maxHeartbeats 1000000 in
theorem snap_Drop (A : Option Addr) (n c : Nat) (l : List Snap) (w : World) (h : SnapsAt w w.heap.size A n l) (id : Int) :
    Calls Try.prog 21 #[.slice A n c, .int .i64 id] w fun e w' => ∃ A' n' c', e = .returned (.tuple #[.slice A' n' c', .int .i64 (dropRes l id).2]) ∧ SnapsAt w' w'.heap.size A' n' (dropRes l id).1 ∧ Free 3 w' w.heap.size A' n' ∧ Below w.heap.size w w' := by
  have hn := h.2.1
  have hl := Lib.hid h.1
  go_enter Try.func21, Try.ntmps21
  go_wp2_with fail
  refine (snap_find A n c l _ (h.to (by repeat (first | exact Below.refl _ _ | assumption | refine Below.drew ?_ | refine below_drewN ?_ _ | refine Below.alloc ?_ (by first | omega | (simp; try omega)) _ | refine Below.setCell ?_ (by first | omega | (simp; try omega)) _ | (refine Below.trans ?_ (Below.mono (by assumption) (by first | omega | (simp; try omega))))))) id).mono ?_
  rintro e w1 ⟨m, z, rfl, hr, hbw1⟩
  have hz1 := hbw1.size
  have h1 := h.to hbw1
  by_cases hz : z = 0
  · obtain ⟨hm, s, hx, hs⟩ : mayL l = true ∧ ∃ s, l[m]? = some s ∧ s.id = id := by rcases hr with ⟨_, _, rfl⟩ | ⟨_, _, _, rfl⟩ | ⟨hm, s, hx, hs, _⟩ <;> first | exact ⟨hm, s, hx, hs⟩ | omega
    have hn32 : n ≤ 32 := by have := hl.out; simp [mayL] at hm; omega
    have hmn : m < n := by have := h.1; have := (List.getElem?_eq_some_iff.1 hx).1; omega
    have hres := drop_of_at hm hx
    rw [hs] at hres
    replace hres := Lib.hid hres
    clear hr hs hx hm
    subst hz
    go_wp2_with fail
    refine (clone_snap A n c l _ (h1.to (by repeat (first | exact Below.refl _ _ | assumption | refine Below.drew ?_ | refine below_drewN ?_ _ | refine Below.alloc ?_ (by first | omega | (simp; try omega)) _ | refine Below.setCell ?_ (by first | omega | (simp; try omega)) _ | (refine Below.trans ?_ (Below.mono (by assumption) (by first | omega | (simp; try omega))))))) (by omega)).mono ?_
    rintro e w2 ⟨v, rfl, hown, hbw2⟩
    have hz2 := hbw2.size
    obtain ⟨A2, c2, rfl⟩ : ∃ A c, v = .slice A n c := by have := hown.form; rw [hl.out] at this; exact this
    have h2 := hown.row Snap.len
    rcases hown.2 with ⟨_, h0⟩ | ⟨g, cap, cur, e, hg, hh, hnc, hcm, hcs, _⟩
    · rw [hl.out] at h0; omega
    simp only [Value.slice.injEq] at e
    obtain ⟨rfl, hln, rfl⟩ := e
    rw [← hln] at hnc
    have hfr : ∀ j, j < n * 3 → w2.frozen? ⟨g, 0 + j, none⟩ = false := fun j _ => by simp [World.frozen?, hh]
    replace hfr := Lib.hid hfr
    clear hln hh hcs
    go_wp2_with fail
    refine (delete_snap g 0 n c2 m l w2 h2 hfr.out hnc (by simpa [maxLen] using hcm) hmn).mono ?_
    rintro e w3 ⟨rfl, h3, hb3, hf3⟩
    replace hb3 := hb3.mono (Nat.le_trans hz1 hg)
    have hb2 : Below w.heap.size w w2 := (by repeat (first | exact Below.refl _ _ | assumption | refine Below.drew ?_ | refine below_drewN ?_ _ | refine Below.alloc ?_ (by first | omega | (simp; try omega)) _ | refine Below.setCell ?_ (by first | omega | (simp; try omega)) _ | (refine Below.trans ?_ (Below.mono (by assumption) (by first | omega | (simp; try omega))))))
    replace hf3 := Lib.hid hf3
    go_wp2
    go_ret2
    refine ⟨_, _, _, by rw [hres.out]; rfl, by rw [hres.out]; exact h3, fun _ => ⟨g, 0, rfl, Nat.le_trans hz1 hg, fun j hj => ?_⟩, hb2.trans hb3⟩
    rw [hf3.out]
    exact hfr.out j (by omega)
  · have hz1' : (z != 0) = true := by simpa using hz
    have hres : dropRes l id = ([], z) := by
      rcases hr with ⟨hm, _, rfl⟩ | ⟨hm, hno, _, rfl⟩ | ⟨_, _, _, _, rfl⟩
      · simp [dropRes, hm]
      · exact drop_none' hm hno
      · exact absurd rfl hz
    replace hres := Lib.hid hres
    clear hr
    go_wp2
    go_ret2
    exact ⟨none, 0, 0, by rw [hres.out]; rfl, by rw [hres.out]; exact RowAt.none_, Free.none_, (by repeat (first | exact Below.refl _ _ | assumption | refine Below.drew ?_ | refine below_drewN ?_ _ | refine Below.alloc ?_ (by first | omega | (simp; try omega)) _ | refine Below.setCell ?_ (by first | omega | (simp; try omega)) _ | (refine Below.trans ?_ (Below.mono (by assumption) (by first | omega | (simp; try omega))))))⟩
end Go.Proofs.Ytbhbkllclookhaa
