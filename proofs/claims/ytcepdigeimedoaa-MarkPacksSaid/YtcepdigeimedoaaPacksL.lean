/-
  How many chunks are moved, how many packs are stale and dead, as they are counted one by one. No program in sight.
-/
import Derived.Test.YtcepdigeimedoaaPartsL
import Derived.Test.YtcepdigeimedoaaNodL
namespace Go.Proofs.Ytcepdigeimedoaa

/-- Each text once, in the row of its first. -/
def uniq (l : List ByteArray) : List ByteArray := l.foldl (fun a p => if p ∈ a then a else a ++ [p]) []
theorem uniq_snoc (l : List ByteArray) (p : ByteArray) : uniq (l ++ [p]) = if p ∈ uniq l then uniq l else uniq l ++ [p] := by
  unfold uniq
  rw [List.foldl_append]
  rfl
theorem uniq_both : ∀ l : List ByteArray, (uniq l).Nodup ∧ ∀ z, z ∈ uniq l ↔ z ∈ l := by
  intro l
  induction h : l.length generalizing l with
  | zero => rw [List.eq_nil_of_length_eq_zero h]; simp [uniq]
  | succ n ih =>
    obtain ⟨m, p, rfl⟩ : ∃ m p, l = m ++ [p] := by
      rcases List.eq_nil_or_concat l with e | ⟨m, p, e⟩
      · rw [e] at h; simp at h
      · exact ⟨m, p, by simpa using e⟩
    obtain ⟨h1, h2⟩ := ih m (by simpa using h)
    rw [uniq_snoc]
    by_cases hp : p ∈ uniq m
    · rw [if_pos hp]
      refine ⟨h1, fun z => ?_⟩
      rw [h2, List.mem_append, List.mem_singleton]
      exact ⟨.inl, fun hz => hz.elim id fun e => e ▸ (h2 p).1 hp⟩
    · rw [if_neg hp]
      refine ⟨List.nodup_append.2 ⟨h1, by simp, fun a ha b hb e => ?_⟩, fun z => ?_⟩
      · rw [List.mem_singleton] at hb
        subst hb
        exact hp (e ▸ ha)
      · rw [List.mem_append, List.mem_append, h2]

section
variable {s : St} {L : List ByteArray} {c : ByteArray} {p : ByteArray}
def inPk (s : St) (L : List ByteArray) (k : Nat) : List ByteArray := (((s.cs.zip s.ps).take k).filter (fun x => decide (x.1 ∈ L))).map (·.2.pack)
def outPk (s : St) (L : List ByteArray) (k : Nat) : List ByteArray := (((s.cs.zip s.ps).take k).filter (fun x => !decide (x.1 ∈ L))).map (·.2.pack)
theorem zip_at {i : Nat} {q : Place} (hc : s.cs[i]? = some c) (hp : s.ps[i]? = some q) : (s.cs.zip s.ps)[i]? = some (c, q) := by rw [List.getElem?_zip_eq_some]; exact ⟨hc, hp⟩
theorem inPk_all (hm : mayIdx s.cs s.ps = true) {k : Nat} (hk : (s.cs.zip s.ps).length ≤ k) : p ∈ inPk s L k ↔ (keptD s L p).length ≠ 0 := by
  unfold inPk
  rw [List.take_of_length_le hk, List.mem_map]
  constructor
  · rintro ⟨⟨c, q⟩, hx, rfl⟩
    obtain ⟨h1, h2⟩ := List.mem_filter.1 hx
    obtain ⟨i, hi⟩ := List.getElem?_of_mem h1
    rw [List.getElem?_zip_eq_some] at hi
    have := List.length_pos_of_mem (kept_mem.2 ⟨at_in hm hi.1 hi.2, by simpa using h2⟩ : c ∈ keptD s L q.pack)
    dsimp only
    omega
  · intro h0
    obtain ⟨c, hc⟩ := List.exists_mem_of_length_pos (Nat.pos_of_ne_zero h0)
    obtain ⟨h1, h2⟩ := kept_mem.1 hc
    obtain ⟨i, q, h3, h4, h5⟩ := (inD_mem hm).1 h1
    exact ⟨(c, q), List.mem_filter.2 ⟨List.mem_of_getElem? (zip_at h3 h4), by simpa using h2⟩, h5⟩
theorem outPk_all (hm : mayIdx s.cs s.ps = true) {k : Nat} (hk : (s.cs.zip s.ps).length ≤ k) : p ∈ outPk s L k ↔ (keptD s L p).length ≠ (inD s p).length := by
  have key : (keptD s L p).length ≠ (inD s p).length ↔ ∃ c, c ∈ inD s p ∧ c ∉ L := by
    unfold keptD
    constructor
    · intro h
      have hlt : ((inD s p).filter fun c => decide (c ∈ L)).length < (inD s p).length := Nat.lt_of_le_of_ne (List.length_filter_le _ _) h
      obtain ⟨c, h1, h2⟩ := List.length_filter_lt_length_iff_exists.1 hlt
      exact ⟨c, h1, by simpa using h2⟩
    · rintro ⟨c, h1, h2⟩
      exact Nat.ne_of_lt (List.length_filter_lt_length_iff_exists.2 ⟨c, h1, by simp [h2]⟩)
  rw [key]
  unfold outPk
  rw [List.take_of_length_le hk, List.mem_map]
  constructor
  · rintro ⟨⟨c, q⟩, hx, rfl⟩
    obtain ⟨h1, h2⟩ := List.mem_filter.1 hx
    obtain ⟨i, hi⟩ := List.getElem?_of_mem h1
    rw [List.getElem?_zip_eq_some] at hi
    exact ⟨c, at_in hm hi.1 hi.2, by simpa using h2⟩
  · rintro ⟨c, h1, h2⟩
    obtain ⟨i, q, h3, h4, h5⟩ := (inD_mem hm).1 h1
    exact ⟨(c, q), List.mem_filter.2 ⟨List.mem_of_getElem? (zip_at h3 h4), by simpa using h2⟩, h5⟩
theorem stale_in (hm : mayIdx s.cs s.ps = true) {k : Nat} (hk : (s.cs.zip s.ps).length ≤ k) : staleP s L p = (decide (p ∈ inPk s L k) && decide (p ∈ outPk s L k)) := by
  rw [Bool.eq_iff_iff]
  simp only [staleP, Bool.and_eq_true, decide_eq_true_eq]
  rw [inPk_all hm hk, outPk_all hm hk]
theorem dead_in (hm : mayIdx s.cs s.ps = true) {k : Nat} (hk : (s.cs.zip s.ps).length ≤ k) : deadP s L p = !decide (p ∈ inPk s L k) := by
  rw [Bool.eq_iff_iff]
  simp only [deadP, decide_eq_true_eq, Bool.not_eq_true', decide_eq_false_iff_not]
  rw [inPk_all hm hk]
  omega
theorem pk_yes {i : Nat} {q : Place} (hc : s.cs[i]? = some c) (hp : s.ps[i]? = some q) (h : c ∈ L) : inPk s L (i + 1) = inPk s L i ++ [q.pack] ∧ outPk s L (i + 1) = outPk s L i := by
  have ht : (s.cs.zip s.ps).take (i + 1) = (s.cs.zip s.ps).take i ++ [(c, q)] := by rw [List.take_add_one, zip_at hc hp]; rfl
  unfold inPk outPk
  rw [ht, List.filter_append, List.filter_append, List.map_append, List.map_append]
  simp [h]
theorem pk_no {i : Nat} {q : Place} (hc : s.cs[i]? = some c) (hp : s.ps[i]? = some q) (h : c ∉ L) : inPk s L (i + 1) = inPk s L i ∧ outPk s L (i + 1) = outPk s L i ++ [q.pack] := by
  have ht : (s.cs.zip s.ps).take (i + 1) = (s.cs.zip s.ps).take i ++ [(c, q)] := by rw [List.take_add_one, zip_at hc hp]; rfl
  unfold inPk outPk
  rw [ht, List.filter_append, List.filter_append, List.map_append, List.map_append]
  simp [h]
theorem pk_len (k : Nat) : (inPk s L k).length ≤ k ∧ (outPk s L k).length ≤ k := by
  unfold inPk outPk
  rw [List.length_map, List.length_map]
  exact ⟨Nat.le_trans (List.length_filter_le _ _) (by simp; omega), Nat.le_trans (List.length_filter_le _ _) (by simp; omega)⟩
/-- The stale ones, and the dead ones, counted by first places. -/
theorem uniq_count (f : ByteArray → Bool) : ((uniq (s.ps.map Place.pack)).filter f).length = ((packsL s).filter f).length := by
  obtain ⟨h1, h2⟩ := uniq_both (s.ps.map Place.pack)
  refine nodup_len (h1.filter _) ((riseS_nodup (setS_rise _)).filter _) fun z => ?_
  rw [List.mem_filter, List.mem_filter, h2]
  unfold packsL
  rw [setS_mem]
/-- What is moved, counted one by one. -/
def mvC (s : St) (L : List ByteArray) (k : Nat) : Nat := (((s.cs.zip s.ps).take k).filter (fun x => decide (x.1 ∈ L) && staleP s L x.2.pack)).length
theorem mvC_next {i : Nat} {q : Place} (hc : s.cs[i]? = some c) (hp : s.ps[i]? = some q) : mvC s L (i + 1) = mvC s L i + (if c ∈ L ∧ staleP s L q.pack = true then 1 else 0) := by
  have ht : (s.cs.zip s.ps).take (i + 1) = (s.cs.zip s.ps).take i ++ [(c, q)] := by rw [List.take_add_one, zip_at hc hp]; rfl
  unfold mvC
  rw [ht, List.filter_append, List.length_append]
  congr 1
  by_cases h : c ∈ L ∧ staleP s L q.pack = true
  · rw [if_pos h, List.filter_cons_of_pos (by simpa using h)]; rfl
  · rw [if_neg h, List.filter_cons_of_neg (by simpa using h)]; rfl
theorem mvC_le (k : Nat) : mvC s L k ≤ k := Nat.le_trans (List.length_filter_le _ _) (by simp; omega)
theorem mvC_all (hm : mayIdx s.cs s.ps = true) {k : Nat} (hk : (s.cs.zip s.ps).length ≤ k) : mvC s L k = (markSp s L).moved.length := by
  unfold mvC
  rw [List.take_of_length_le hk, ← List.length_map (f := Prod.fst)]
  refine nodup_len ?_ (riseS_nodup (setS_rise _)) fun z => ?_
  · refine List.Pairwise.sublist ((List.filter_sublist ..).map Prod.fst) ?_
    rw [List.map_fst_zip (by rw [(mayIdx_len hm).1]; exact Nat.le_refl _)]
    exact riseS_nodup (mayIdx_rise hm)
  · rw [List.mem_map]
    constructor
    · rintro ⟨⟨c, q⟩, hx, rfl⟩
      obtain ⟨h1, h2⟩ := List.mem_filter.1 hx
      obtain ⟨i, hi⟩ := List.getElem?_of_mem h1
      rw [List.getElem?_zip_eq_some] at hi
      exact (moved_at hm hi.1 hi.2).2 (by simpa using h2)
    · intro hz
      simp only [markSp] at hz
      rw [setS_mem, movedL_mem] at hz
      obtain ⟨p, _, h2, h3, h4⟩ := hz
      obtain ⟨i, q, h5, h6, h7⟩ := (inD_mem hm).1 h3
      exact ⟨(z, q), List.mem_filter.2 ⟨List.mem_of_getElem? (zip_at h5 h6), by simp [h4, h7, h2]⟩, rfl⟩
/-- First places, one by one. -/
theorem uniq_next {i : Nat} {q : Place} (hp : s.ps[i]? = some q) (f : ByteArray → Bool) : ((uniq ((s.ps.take (i + 1)).map Place.pack)).filter f).length = ((uniq ((s.ps.take i).map Place.pack)).filter f).length + (if q.pack ∉ (s.ps.take i).map Place.pack ∧ f q.pack = true then 1 else 0) := by
  have ht : (s.ps.take (i + 1)).map Place.pack = (s.ps.take i).map Place.pack ++ [q.pack] := by rw [List.take_add_one, hp]; simp
  rw [ht, uniq_snoc]
  by_cases h : q.pack ∈ uniq ((s.ps.take i).map Place.pack)
  · rw [if_pos h, if_neg (fun hh => hh.1 (((uniq_both _).2 _).1 h))]
    rfl
  · rw [if_neg h, List.filter_append, List.length_append]
    congr 1
    have h' : q.pack ∉ (s.ps.take i).map Place.pack := fun hh => h (((uniq_both _).2 _).2 hh)
    by_cases hf : f q.pack = true
    · rw [if_pos ⟨h', hf⟩, List.filter_cons_of_pos hf]; rfl
    · rw [if_neg (fun hh => hf hh.2), List.filter_cons_of_neg hf]; rfl
end
end Go.Proofs.Ytcepdigeimedoaa
