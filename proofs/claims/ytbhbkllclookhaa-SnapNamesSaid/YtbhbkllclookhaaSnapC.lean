/-
  The contracts of snap.find and snap.Find.
-/
import Derived.Test.YtbhbkllclookhaaSnapB
import Derived.Test.YtbhbkllclookhaaFn
namespace Go.Proofs.Ytbhbkllclookhaa
open Go.RowKit

/-- Where an ID stands: the place, the error. -/
def FindRes (l : List Snap) (id : Int) (m : Nat) (z : Int) : Prop :=
  (mayL l = false ∧ m = 0 ∧ z = 4) ∨ (mayL l = true ∧ (∀ s ∈ l, s.id ≠ id) ∧ m = 0 ∧ z = 5) ∨ (mayL l = true ∧ ∃ s, l[m]? = some s ∧ s.id = id ∧ z = 0)

def idAt' (l : List Snap) (i : Nat) : Int := match l[i]? with | some s => s.id | none => 0
theorem idAt'_eq {l : List Snap} {i : Nat} {s : Snap} (h : l[i]? = some s) : idAt' l i = s.id := by unfold idAt'; rw [h]

set_option maxHeartbeats 400000 in
theorem find_one (A : Option Addr) (n c : Nat) (l : List Snap) (w : World) (h : SnapsAt w w.heap.size A n l) (id : Int) (b1 b2 i : Nat) (hi : i < n)
    (h1 : w.cell? ⟨b1, 0, none⟩ = some (.slice A n c)) (h2 : w.cell? ⟨b2, 0, none⟩ = some (.int .i64 id)) :
    Calls Try.prog 86 #[.int .i64 i, .pointer (some ⟨b1, 0, none⟩), .pointer (some ⟨b2, 0, none⟩)] w fun e w' => e = .returned (.bool (decide (id ≤ idAt' l i))) ∧ Below w.heap.size w w' := by
  have hn := h.2.1
  obtain ⟨b, off, s, rfl, hb1, hx, q0, q1, q2⟩ := h.snap hi
  have e : Hid (idAt' l i = s.id) := idAt'_eq hx
  clear hx
  go_enter Try.func86, Try.ntmps86
  go_wp2
  go_quiet (fail)
  go_wp2
  go_ret
  exact ⟨ret_bool (by rw [e.out]), (by repeat (first | exact Below.refl _ _ | assumption | refine Below.drew ?_ | refine below_drewN ?_ _ | refine Below.alloc ?_ (by first | omega | (simp; try omega)) _ | refine Below.setCell ?_ (by first | omega | (simp; try omega)) _ | (refine Below.trans ?_ (Below.mono (by assumption) (by first | omega | (simp; try omega))))))⟩

theorem isFn_find1 : IsFn 86 := fun args w => by go_simp
theorem goesFn_find (A : Option Addr) (n c : Nat) (l : List Snap) (w : World) (h : SnapsAt w w.heap.size A n l) (id : Int) (b1 b2 : Nat)
    (h1 : w.cell? ⟨b1, 0, none⟩ = some (.slice A n c)) (h2 : w.cell? ⟨b2, 0, none⟩ = some (.int .i64 id)) (hb1 : b1 < w.heap.size) (hb2 : b2 < w.heap.size) :
    GoesFn w (.func (.func 86) #[] #[.pointer (some ⟨b1, 0, none⟩), .pointer (some ⟨b2, 0, none⟩)]) n (fun i => decide (id ≤ idAt' l i)) :=
  ⟨_, _, rfl, isFn_find1, fun w1 hb i hi => find_one A n c l w1 ((h.below hb).more hb.size) id b1 b2 i hi ((hb.cell (p := ⟨b1, 0, none⟩) hb1).trans h1) ((hb.cell (p := ⟨b2, 0, none⟩) hb2).trans h2)⟩

theorem rising_at : ∀ {l : List Snap} {y : Int}, rising y l = true → ∀ {a b : Nat} {s t : Snap}, l[a]? = some s → l[b]? = some t → a < b → s.id < t.id
  | [], _, _, a, b, s, t, ha, _, _ => by simp at ha
  | x :: l, y, h, 0, 0, s, t, _, _, hab => by omega
  | x :: l, y, h, 0, b + 1, s, t, ha, hb, _ => by
    simp [rising] at h
    simp at ha hb
    subst ha
    have hgt : ∀ {l : List Snap} {y : Int}, rising y l = true → ∀ t ∈ l, y < t.id := by
      intro l
      induction l with
      | nil => intro y _ t ht; simp at ht
      | cons u l ih =>
        intro y h t ht
        simp [rising] at h
        simp at ht
        rcases ht with rfl | ht
        · exact h.1.2
        · have := ih h.2 t ht; omega
    exact hgt h.2 t (List.mem_of_getElem? hb)
  | x :: l, y, h, a + 1, 0, s, t, _, _, hab => by omega
  | x :: l, y, h, a + 1, b + 1, s, t, ha, hb, hab => by
    simp [rising] at h
    exact rising_at h.2 (a := a) (b := b) (by simpa using ha) (by simpa using hb) (by omega)

set_option maxHeartbeats 1000000 in
theorem snap_find (A : Option Addr) (n c : Nat) (l : List Snap) (w : World) (h : SnapsAt w w.heap.size A n l) (id : Int) :
    Calls Try.prog 59 #[.slice A n c, .int .i64 id] w fun e w' => ∃ (m : Nat) (z : Int), e = .returned (.tuple #[.int .i64 m, .int .i64 z]) ∧ FindRes l id m z ∧ Below w.heap.size w w' := by
  have hn := h.2.1
  have hl := Lib.hid h.1
  cases hm : mayL l
  · go_enter Try.func59, Try.ntmps59
    go_wp2_with (go_at_call 16; refine (snap_May A n c l _ (h.to (by repeat (first | exact Below.refl _ _ | assumption | refine Below.drew ?_ | refine below_drewN ?_ _ | refine Below.alloc ?_ (by first | omega | (simp; try omega)) _ | refine Below.setCell ?_ (by first | omega | (simp; try omega)) _ | (refine Below.trans ?_ (Below.mono (by assumption) (by first | omega | (simp; try omega)))))))).mono ?_; rintro e w1 ⟨rfl, hbw1⟩; obtain ⟨hcw1, hfw1⟩ := bcell hbw1; (try simp only [World.size_drew, World.cell?_drew, World.frozen?_drew, World.heap_drewN, World.cell?_drewN, World.frozen?_drewN] at hcw1 hfw1); have hzw1 := hbw1.size; (try simp at hzw1); (try have hlw1 := (by omega : w.heap.size < w1.heap.size)); (try have hmw1 := (by omega : w.heap.size + 1 < w1.heap.size)); (try have hnw1 := (by omega : w.heap.size + 1 + 1 < w1.heap.size)))
    go_ret2
    exact ⟨0, 4, rfl, .inl ⟨hm, rfl, rfl⟩, (by repeat (first | exact Below.refl _ _ | assumption | refine Below.drew ?_ | refine below_drewN ?_ _ | refine Below.alloc ?_ (by first | omega | (simp; try omega)) _ | refine Below.setCell ?_ (by first | omega | (simp; try omega)) _ | (refine Below.trans ?_ (Below.mono (by assumption) (by first | omega | (simp; try omega))))))⟩
  · have hri : rising 0 l = true := by simp [mayL] at hm; exact hm.1
    have hn32 : n ≤ 32 := by have := hl.out; simp [mayL] at hm; omega
    have hmono : Hid (∀ a b, a ≤ b → b < n → decide (id ≤ idAt' l a) = true → decide (id ≤ idAt' l b) = true) := by
      intro a b hab hb ha
      have hl := hl.out
      have xa : l[a]? = some (l[a]'(by omega)) := List.getElem?_eq_getElem (by omega)
      have xb : l[b]? = some (l[b]'(by omega)) := List.getElem?_eq_getElem (by omega)
      rw [idAt'_eq xa] at ha
      rw [idAt'_eq xb]
      simp at ha ⊢
      rcases Nat.lt_or_ge a b with h | h
      · have := rising_at hri xa xb h; omega
      · have : a = b := by omega
        subst this
        exact ha
    replace hri := Lib.hid hri
    go_enter Try.func59, Try.ntmps59
    go_wp2_with (go_at_call 16; refine (snap_May A n c l _ (h.to (by repeat (first | exact Below.refl _ _ | assumption | refine Below.drew ?_ | refine below_drewN ?_ _ | refine Below.alloc ?_ (by first | omega | (simp; try omega)) _ | refine Below.setCell ?_ (by first | omega | (simp; try omega)) _ | (refine Below.trans ?_ (Below.mono (by assumption) (by first | omega | (simp; try omega)))))))).mono ?_; rintro e w1 ⟨rfl, hbw1⟩; obtain ⟨hcw1, hfw1⟩ := bcell hbw1; (try simp only [World.size_drew, World.cell?_drew, World.frozen?_drew, World.heap_drewN, World.cell?_drewN, World.frozen?_drewN] at hcw1 hfw1); have hzw1 := hbw1.size; (try simp at hzw1); (try have hlw1 := (by omega : w.heap.size < w1.heap.size)); (try have hmw1 := (by omega : w.heap.size + 1 < w1.heap.size)); (try have hnw1 := (by omega : w.heap.size + 1 + 1 < w1.heap.size)))
    refine (sort_Search n _ _ w1 (by omega) (goesFn_find A n c l w1 (h.to (by repeat (first | exact Below.refl _ _ | assumption | refine Below.drew ?_ | refine below_drewN ?_ _ | refine Below.alloc ?_ (by first | omega | (simp; try omega)) _ | refine Below.setCell ?_ (by first | omega | (simp; try omega)) _ | (refine Below.trans ?_ (Below.mono (by assumption) (by first | omega | (simp; try omega))))))) id w.heap.size (w.heap.size + 1) (by go_simp) (by go_simp) (by omega) (by omega)) hmono.out).mono ?_
    rintro e w2 ⟨m, rfl, hmn, hlo, hhi, hbw2⟩
    obtain ⟨hcw2, hfw2⟩ := bcell hbw2; (try simp only [World.size_drew, World.cell?_drew, World.frozen?_drew, World.heap_drewN, World.cell?_drewN, World.frozen?_drewN] at hcw2 hfw2); have hzw2 := hbw2.size; (try simp at hzw2); (try have hlw2 := (by omega : w.heap.size < w2.heap.size)); (try have hmw2 := (by omega : w.heap.size + 1 < w2.heap.size)); (try have hnw2 := (by omega : w.heap.size + 1 + 1 < w2.heap.size))
    replace hlo := Lib.hid hlo
    replace hhi := Lib.hid hhi
    by_cases hlt : m < n
    · obtain ⟨b, off, s, rfl, hb1, hx, q0, q1, q2⟩ := (h.to (w' := w2) (by repeat (first | exact Below.refl _ _ | assumption | refine Below.drew ?_ | refine below_drewN ?_ _ | refine Below.alloc ?_ (by first | omega | (simp; try omega)) _ | refine Below.setCell ?_ (by first | omega | (simp; try omega)) _ | (refine Below.trans ?_ (Below.mono (by assumption) (by first | omega | (simp; try omega))))))).snap hlt
      have hid := hhi.out m (Nat.le_refl _) hlt
      rw [idAt'_eq hx] at hid
      simp at hid
      have hmn' : ((m : Int) == (n : Int)) = false := by simp; omega
      replace hx := Lib.hid hx
      by_cases hs : s.id = id
      · have hb : (s.id != id) = false := by simpa using hs
        replace hs := Lib.hid hs
        go_wp2
        go_quiet (fail)
        go_wp2
        go_ret2
        exact ⟨m, 0, rfl, .inr (.inr ⟨hm, s, hx.out, hs.out, rfl⟩), (by repeat (first | exact Below.refl _ _ | assumption | refine Below.drew ?_ | refine below_drewN ?_ _ | refine Below.alloc ?_ (by first | omega | (simp; try omega)) _ | refine Below.setCell ?_ (by first | omega | (simp; try omega)) _ | (refine Below.trans ?_ (Below.mono (by assumption) (by first | omega | (simp; try omega))))))⟩
      · have hb : (s.id != id) = true := by simpa using hs
        replace hs := Lib.hid hs
        have hno : Hid (∀ t ∈ l, t.id ≠ id) := by
          intro t ht he
          obtain ⟨k, hk⟩ := List.getElem?_of_mem ht
          rcases Nat.lt_or_ge k m with hkm | hkm
          · have := hlo.out k hkm
            rw [idAt'_eq hk] at this
            simp at this
            omega
          · rcases Nat.lt_or_ge m k with hmk | hmk
            · have := rising_at hri.out hx.out hk hmk
              omega
            · have : k = m := by omega
              subst this
              have := hx.out
              rw [hk] at this
              injection this with this
              subst this
              exact hs.out he
        go_wp2
        go_quiet (fail)
        go_wp2
        go_ret2
        exact ⟨0, 5, rfl, .inr (.inl ⟨hm, hno.out, rfl, rfl⟩), (by repeat (first | exact Below.refl _ _ | assumption | refine Below.drew ?_ | refine below_drewN ?_ _ | refine Below.alloc ?_ (by first | omega | (simp; try omega)) _ | refine Below.setCell ?_ (by first | omega | (simp; try omega)) _ | (refine Below.trans ?_ (Below.mono (by assumption) (by first | omega | (simp; try omega))))))⟩
    · obtain rfl : m = n := by omega
      have hno : Hid (∀ t ∈ l, t.id ≠ id) := by
        intro t ht he
        obtain ⟨k, hk⟩ := List.getElem?_of_mem ht
        have := hlo.out k (by have := hl.out; have := (List.getElem?_eq_some_iff.1 hk).1; omega)
        rw [idAt'_eq hk] at this
        simp at this
        omega
      have hmn' : ((m : Int) == (m : Int)) = true := by simp
      go_wp2
      go_quiet (fail)
      go_wp2
      go_ret2
      exact ⟨0, 5, rfl, .inr (.inl ⟨hm, hno.out, rfl, rfl⟩), (by repeat (first | exact Below.refl _ _ | assumption | refine Below.drew ?_ | refine below_drewN ?_ _ | refine Below.alloc ?_ (by first | omega | (simp; try omega)) _ | refine Below.setCell ?_ (by first | omega | (simp; try omega)) _ | (refine Below.trans ?_ (Below.mono (by assumption) (by first | omega | (simp; try omega))))))⟩

def Snap.zero : Snap := ⟨0, 0, ⟨#[]⟩⟩

set_option maxHeartbeats 1000000 in
theorem snap_Find (A : Option Addr) (n c : Nat) (l : List Snap) (w : World) (h : SnapsAt w w.heap.size A n l) (id : Int) :
    Calls Try.prog 20 #[.slice A n c, .int .i64 id] w fun e w' => ∃ (m : Nat) (z : Int) (s : Snap), e = .returned (.tuple #[s.agg, .int .i64 z]) ∧ FindRes l id m z ∧ (z = 0 → l[m]? = some s) ∧ (z ≠ 0 → s = Snap.zero) ∧ Below w.heap.size w w' := by
  have hn := h.2.1
  go_enter Try.func20, Try.ntmps20
  go_wp2_with fail
  refine (snap_find A n c l _ (h.to (by repeat (first | exact Below.refl _ _ | assumption | refine Below.drew ?_ | refine below_drewN ?_ _ | refine Below.alloc ?_ (by first | omega | (simp; try omega)) _ | refine Below.setCell ?_ (by first | omega | (simp; try omega)) _ | (refine Below.trans ?_ (Below.mono (by assumption) (by first | omega | (simp; try omega))))))) id).mono ?_
  rintro e w1 ⟨m, z, rfl, hr, hbw1⟩
  obtain ⟨hcw1, hfw1⟩ := bcell hbw1; (try simp only [World.size_drew, World.cell?_drew, World.frozen?_drew, World.heap_drewN, World.cell?_drewN, World.frozen?_drewN] at hcw1 hfw1); have hzw1 := hbw1.size; (try simp at hzw1); (try have hlw1 := (by omega : w.heap.size < w1.heap.size)); (try have hmw1 := (by omega : w.heap.size + 1 < w1.heap.size)); (try have hnw1 := (by omega : w.heap.size + 1 + 1 < w1.heap.size))
  have k0 : w1.cell? ⟨w.heap.size, 0, none⟩ = some (.int .i64 0) := by go_simp
  have k1 : w1.cell? ⟨w.heap.size, 1, none⟩ = some (.int .i64 0) := by go_simp
  have k2 : w1.cell? ⟨w.heap.size, 2, none⟩ = some (.string ⟨#[]⟩) := by go_simp
  by_cases hz : z = 0
  · obtain ⟨s, hx, hs⟩ : ∃ s, l[m]? = some s ∧ s.id = id := by rcases hr with ⟨_, _, rfl⟩ | ⟨_, _, _, rfl⟩ | ⟨_, s, hx, hs, _⟩ <;> first | exact ⟨s, hx, hs⟩ | omega
    clear hs
    subst hz
    obtain ⟨b, off, rfl, hb⟩ := (h.to (w' := w1) (by repeat (first | exact Below.refl _ _ | assumption | refine Below.drew ?_ | refine below_drewN ?_ _ | refine Below.alloc ?_ (by first | omega | (simp; try omega)) _ | refine Below.setCell ?_ (by first | omega | (simp; try omega)) _ | (refine Below.trans ?_ (Below.mono (by assumption) (by first | omega | (simp; try omega))))))).addr (i := m) (by have := h.1; have := (List.getElem?_eq_some_iff.1 hx).1; omega)
    obtain ⟨q0, q1, q2⟩ := (h.to (w' := w1) (by repeat (first | exact Below.refl _ _ | assumption | refine Below.drew ?_ | refine below_drewN ?_ _ | refine Below.alloc ?_ (by first | omega | (simp; try omega)) _ | refine Below.setCell ?_ (by first | omega | (simp; try omega)) _ | (refine Below.trans ?_ (Below.mono (by assumption) (by first | omega | (simp; try omega))))))).snapEx hx
    have hmn : m < n := by have := h.1; have := (List.getElem?_eq_some_iff.1 hx).1; omega
    replace hx := Lib.hid hx
    go_wp2
    exact bodyPost_ret (v := .tuple #[s.agg, .int .i64 0]) (by simp [results, Try.results20, go_sem, Snap.agg, k0, k1, k2]) rfl ⟨m, 0, s, rfl, hr, fun _ => hx.out, fun h => absurd rfl h, (by repeat (first | exact Below.refl _ _ | assumption | refine Below.drew ?_ | refine below_drewN ?_ _ | refine Below.alloc ?_ (by first | omega | (simp; try omega)) _ | refine Below.setCell ?_ (by first | omega | (simp; try omega)) _ | (refine Below.trans ?_ (Below.mono (by assumption) (by first | omega | (simp; try omega))))))⟩
  · have hz1 : (z != 0) = true := by simpa using hz
    go_wp2
    exact bodyPost_ret (v := .tuple #[Snap.zero.agg, .int .i64 z]) (by simp [results, Try.results20, go_sem, Snap.agg, Snap.zero, k0, k1, k2]) rfl ⟨m, z, Snap.zero, rfl, hr, fun h => absurd h hz, fun _ => rfl, (by repeat (first | exact Below.refl _ _ | assumption | refine Below.drew ?_ | refine below_drewN ?_ _ | refine Below.alloc ?_ (by first | omega | (simp; try omega)) _ | refine Below.setCell ?_ (by first | omega | (simp; try omega)) _ | (refine Below.trans ?_ (Below.mono (by assumption) (by first | omega | (simp; try omega))))))⟩
end Go.Proofs.Ytbhbkllclookhaa
