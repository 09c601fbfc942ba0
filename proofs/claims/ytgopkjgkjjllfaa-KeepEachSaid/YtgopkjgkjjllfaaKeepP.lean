/-
  Plain laws of which snapshots are kept: no program in sight (but for the words).
-/
import Derived.Test.YtgopkjgkjjllfaaKeepG
namespace Go.Proofs.Ytgopkjgkjjllfaa
open Go.RowKit

theorem choose_ok {l K G : List Snap} {r : Rule} (h : choose l r = (K, G, 0)) :
    mayL l = true ∧ mayRule r = true ∧ K = keptFrom (goesB l r) 0 l ∧ G = goneFrom (goesB l r) 0 l ∧ (0 < r.id → (l.any fun s => decide (s.id = r.id)) = true) := by
  unfold choose at h
  cases hm : mayL l
  · rw [hm] at h; simp at h
  · cases hr : mayRule r
    · rw [hm, hr] at h; simp at h
    · rw [hm, hr] at h
      cases hc : decide (0 < r.id) && !(l.any fun s => decide (s.id = r.id))
      · rw [hc] at h
        simp at h
        refine ⟨rfl, rfl, h.1.symm, h.2.symm, fun hp => ?_⟩
        simp [hp] at hc
        simpa using hc
      · rw [hc] at h; simp at h

theorem choose_bad {l K G : List Snap} {r : Rule} {z : Int} (h : choose l r = (K, G, z)) (hz : z ≠ 0) : K = [] ∧ G = [] ∧ (z == 4) = !(mayL l) := by
  unfold choose at h
  cases hm : mayL l
  · rw [hm] at h; simp at h; obtain ⟨rfl, rfl, rfl⟩ := h; simp
  · cases hr : mayRule r
    · rw [hm, hr] at h; simp at h; obtain ⟨rfl, rfl, rfl⟩ := h; simp
    · rw [hm, hr] at h
      cases hc : decide (0 < r.id) && !(l.any fun s => decide (s.id = r.id))
      · rw [hc] at h
        simp at h
        omega
      · rw [hc] at h; simp at h; obtain ⟨rfl, rfl, rfl⟩ := h; simp

theorem rising_mono {y y' : Int} (h : y' ≤ y) : ∀ {l : List Snap}, rising y l = true → rising y' l = true
  | [], _ => rfl
  | s :: l, hr => by
    simp [rising] at hr ⊢
    exact ⟨⟨hr.1.1, by omega⟩, hr.2⟩
theorem rising_gt : ∀ {l : List Snap} {y : Int}, rising y l = true → ∀ t ∈ l, y < t.id
  | [], _, _ => by simp
  | s :: l, y, h => by
    simp [rising] at h
    intro t ht
    simp at ht
    rcases ht with rfl | ht
    · exact h.1.2
    · have := rising_gt h.2 t ht; omega
theorem rising_drop : ∀ {l : List Snap} {y : Int} (k : Nat), rising y l = true → ∀ {s : Snap} {m : List Snap}, l.drop k = s :: m → rising s.id m = true
  | [], _, k, _, s, m, hd => by simp at hd
  | t :: l, y, 0, h, s, m, hd => by
    simp at hd
    obtain ⟨rfl, rfl⟩ := hd
    simp [rising] at h
    exact h.2
  | t :: l, y, k + 1, h, s, m, hd => by
    simp [rising] at h
    exact rising_drop k h.2 (by simpa using hd)
theorem rising_sub {l l' : List Snap} (hs : l'.Sublist l) : ∀ {y : Int}, rising y l = true → rising y l' = true := by
  induction hs with
  | slnil => intro y h; exact h
  | cons s _ ih =>
    intro y h
    simp [rising] at h
    exact rising_mono (by omega) (ih h.2)
  | cons_cons s _ ih =>
    intro y h
    simp [rising] at h ⊢
    exact ⟨h.1, ih h.2⟩
theorem kept_sub (g : Nat → Bool) : ∀ (m : List Snap) (k : Nat), (keptFrom g k m).Sublist m
  | [], _ => List.Sublist.refl _
  | s :: m, k => by
    unfold keptFrom
    split
    · exact (kept_sub g m (k + 1)).cons s
    · exact (kept_sub g m (k + 1)).cons_cons s
theorem gone_sub (g : Nat → Bool) : ∀ (m : List Snap) (k : Nat), (goneFrom g k m).Sublist m
  | [], _ => List.Sublist.refl _
  | s :: m, k => by
    unfold goneFrom
    split
    · exact (gone_sub g m (k + 1)).cons_cons s
    · exact (gone_sub g m (k + 1)).cons s
theorem mayL_sub {l l' : List Snap} (hs : l'.Sublist l) (h : mayL l = true) : mayL l' = true := by
  simp [mayL] at h ⊢
  exact ⟨rising_sub hs h.1, Nat.le_trans hs.length_le h.2⟩
theorem parts_len (g : Nat → Bool) : ∀ (m : List Snap) (k : Nat), (keptFrom g k m).length + (goneFrom g k m).length = m.length
  | [], _ => rfl
  | s :: m, k => by
    have := parts_len g m (k + 1)
    unfold keptFrom goneFrom
    split <;> simp <;> omega

/-- A step of the merge: the next one is kept. -/
theorem merge_kept {l K : List Snap} {g : Nat → Bool} {k i : Nat} {s : Snap} (hd : l.drop k = s :: l.drop (k + 1)) (hK : K.drop i = keptFrom g k (l.drop k)) (hg : g k = false) :
    i < K.length ∧ K[i]? = some s ∧ K.drop (i + 1) = keptFrom g (k + 1) (l.drop (k + 1)) := by
  rw [hd] at hK
  simp only [keptFrom, hg, Bool.false_eq_true, if_false] at hK
  have hi : i < K.length := by
    rcases Nat.lt_or_ge i K.length with h | h
    · exact h
    · rw [List.drop_eq_nil_of_le h] at hK; cases hK
  rw [List.drop_eq_getElem_cons hi] at hK
  injection hK with h1 h2
  exact ⟨hi, by rw [List.getElem?_eq_getElem hi, h1], h2⟩
theorem merge_gone {l G : List Snap} {g : Nat → Bool} {k i : Nat} {s : Snap} (hd : l.drop k = s :: l.drop (k + 1)) (hG : G.drop i = goneFrom g k (l.drop k)) (hg : g k = true) :
    i < G.length ∧ G[i]? = some s ∧ G.drop (i + 1) = goneFrom g (k + 1) (l.drop (k + 1)) := by
  rw [hd] at hG
  simp only [goneFrom, hg, if_true] at hG
  have hi : i < G.length := by
    rcases Nat.lt_or_ge i G.length with h | h
    · exact h
    · rw [List.drop_eq_nil_of_le h] at hG; cases hG
  rw [List.drop_eq_getElem_cons hi] at hG
  injection hG with h1 h2
  exact ⟨hi, by rw [List.getElem?_eq_getElem hi, h1], h2⟩
/-- .. is gone: of the kept ones none is it, those that are left stay. -/
theorem merge_skip {l K : List Snap} {g : Nat → Bool} {k i : Nat} {s : Snap} (hl : rising 0 l = true) (hd : l.drop k = s :: l.drop (k + 1)) (hK : K.drop i = keptFrom g k (l.drop k)) (hg : g k = true) :
    K.drop i = keptFrom g (k + 1) (l.drop (k + 1)) ∧ ∀ t, K[i]? = some t → t.same s = false := by
  rw [hd] at hK
  simp only [keptFrom, hg, if_true] at hK
  refine ⟨hK, fun t ht => ?_⟩
  have hm : t ∈ K.drop i := by
    obtain ⟨hi, rfl⟩ := List.getElem?_eq_some_iff.1 ht
    rw [List.drop_eq_getElem_cons hi]
    exact List.mem_cons_self
  rw [hK] at hm
  have := rising_gt (rising_drop k hl hd) t ((kept_sub g _ _).subset hm)
  cases h : t.same s
  · rfl
  · rw [Snap.same_iff] at h; subst h; omega
theorem merge_skip' {l G : List Snap} {g : Nat → Bool} {k i : Nat} {s : Snap} (hd : l.drop k = s :: l.drop (k + 1)) (hG : G.drop i = goneFrom g k (l.drop k)) (hg : g k = false) :
    G.drop i = goneFrom g (k + 1) (l.drop (k + 1)) := by
  rw [hd] at hG
  simpa only [goneFrom, hg, Bool.false_eq_true, if_false] using hG
theorem drop_end {K : List Snap} {i : Nat} (hi : i ≤ K.length) (h : K.drop i = []) : i = K.length := by
  have := List.drop_eq_nil_iff.1 h
  omega

theorem eqSnapE (a b : Snap) (w : World) : (binOp .eql 39 (.agg #[.int .i64 a.id, .int .i64 a.time, .string a.root]) (.agg #[.int .i64 b.id, .int .i64 b.time, .string b.root])).run Try.prog w
    = .ok (.bool (a.same b)) w := by
  have u3 := Try.underlying3
  have u2 := Try.underlying2
  have u9 := Try.underlying9
  have hS : Try.prog.underlying 39 = some (.struct (Try.prog.fieldsOf 39)) := by kernel_rfl
  have hp : Try.prog.stoodInHeld 39 = false := by kernel_rfl
  rw [run_eql_struct, show (10000 : Nat) = 9999 + 1 from rfl, run_equalIn_agg w 9999 _ _ _ hS hp]
  simp only [Program.fieldsOf, Try.underlying39]
  go_simp
  obtain ⟨i, t, r⟩ := a
  obtain ⟨i', t', r'⟩ := b
  have hr := bytes_eq r r'
  simp only [hr, Snap.same]
  by_cases h1 : i = i' <;> by_cases h2 : t = t' <;> by_cases h3 : r = r' <;> simp [h1, h2, h3]
end Go.Proofs.Ytgopkjgkjjllfaa
