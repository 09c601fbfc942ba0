/-
  Some stores, apart from each other, behind a base: what each call makes of them. For closed statements.
-/
import Derived.Test.YtfkonpmnclknaaaStoK
import Derived.Test.YtfkonpmnclknaaaStoJ
import Derived.Test.YtfkonpmnclknaaaSamB
namespace Go.Proofs.Ytfkonpmnclknaaa
open Go.RowKit Go.Maps
attribute [local go_sem ↓] Go.wp_at_zero Go.wp_at_succ

/-- The stores of a list (their boxes beside them), apart from each other and from some blocks that stay as they are. -/
def Stos (B : Nat) (w wr : World) (N : Nat) (l : List (Nat × Sto)) (G : List (Nat × Obj)) : Prop :=
  Below B w wr ∧ ∃ F : Nat → List Nat, (∀ k b s, l[k]? = some (b, s) → StoAt wr b (F k) N s ∧ ∀ i ∈ F k, B ≤ i) ∧ (∀ k k', k < l.length → k' < l.length → k ≠ k' → Sep (F k) (F k')) ∧ ∀ p ∈ G, wr.heap[p.1]? = some p.2 ∧ ∀ k, k < l.length → p.1 ∉ F k
section
variable {B N M k b : Nat} {w wr w' w1 : World} {l : List (Nat × Sto)} {s s' : Sto} {G : List (Nat × Obj)}
theorem heap_lt {w : World} {q : Nat} {o : Obj} (h : w.heap[q]? = some o) : q < w.heap.size := (Array.getElem?_eq_some_iff.1 h).1
theorem Stos.bel (h : Stos B w wr N l G) : Below B w wr := h.1
theorem Stos.row {q : Nat} {o : Obj} (h : Stos B w wr N l ((q, o) :: G)) : wr.heap[q]? = some o := by
  obtain ⟨h0, F, h1, h2, h3⟩ := h
  exact (h3 (q, o) (by simp)).1
theorem Stos.none_ (hb : Below B w wr) : Stos B w wr 0 [] [] := ⟨hb, fun _ => [], by simp, by simp, by simp⟩
theorem Stos.below (h : Stos B w wr N l G) (hB : B ≤ w.heap.size) (hb : Below wr.heap.size wr w') : Stos B w w' N l G := by
  obtain ⟨h0, F, h1, h2, h3⟩ := h
  exact ⟨h0.trans (hb.mono (Nat.le_trans hB h0.size)), F, fun k b s hk => ⟨(h1 k b s hk).1.below hb, (h1 k b s hk).2⟩, h2, fun p hp => ⟨(hb.block _ (heap_lt (h3 p hp).1)).trans (h3 p hp).1, (h3 p hp).2⟩⟩
theorem Stos.alloc (h : Stos B w wr N l G) (hB : B ≤ w.heap.size) (o : Obj) : Stos B w (wr.alloc o) N l ((wr.heap.size, o) :: G) := by
  have hq := h.below hB ((Below.refl _ wr).alloc (Nat.le_refl _) o)
  obtain ⟨h0, F, h1, h2, h3⟩ := h
  refine ⟨hq.1, F, fun k b s hk => ⟨(h1 k b s hk).1.below ((Below.refl _ wr).alloc (Nat.le_refl _) o), (h1 k b s hk).2⟩, h2, fun p hp => ?_⟩
  rcases List.mem_cons.1 hp with rfl | hp
  · exact ⟨heap_alloc_new _ _, fun k hk hi => by have := (h1 k _ _ (List.getElem?_eq_getElem hk)).1.lt _ hi; simp at this⟩
  · exact ⟨(((Below.refl _ wr).alloc (Nat.le_refl _) o).block _ (heap_lt (h3 p hp).1)).trans (h3 p hp).1, (h3 p hp).2⟩
theorem Stos.drop (h : Stos B w wr N l G) : Stos B w wr N l [] := by
  obtain ⟨h0, F, h1, h2, h3⟩ := h
  exact ⟨h0, F, h1, h2, by simp⟩
theorem Stos.at_ (h : Stos B w wr N l G) (hk : l[k]? = some (b, s)) : ∃ F, StoAt wr b F N s := by
  obtain ⟨h0, F, h1, h2, h3⟩ := h
  exact ⟨_, (h1 k b s hk).1⟩
theorem Stos.to (h : Stos B w wr N l G) (hB : B ≤ w.heap.size) (hk : l[k]? = some (b, s)) (hM : N ≤ M) (hc : M ≤ 1000000) : ∃ F, StoAt wr b F N s ∧ ∀ {w'}, StoTo b F M s' wr w' → Stos B w w' M (l.set k (b, s')) G := by
  obtain ⟨h0, F, h1, h2, h3⟩ := h
  refine ⟨F k, (h1 k b s hk).1, fun {w'} ht => ?_⟩
  obtain ⟨F', x⟩ := ht.next (h1 k b s hk).2 (Nat.le_trans hB h0.size)
  have hkl : k < l.length := (List.getElem?_eq_some_iff.1 hk).1
  refine ⟨h0.trans x.below, fun i => if i = k then F' else F i, fun i c t hi => ?_, fun i j hi hj hij => ?_, fun p hp => ⟨?_, fun i hi => ?_⟩⟩
  all_goals (try dsimp only)
  · rw [List.getElem?_set] at hi
    by_cases hik : k = i
    · subst hik
      rw [if_pos rfl, if_pos hkl] at hi
      cases hi
      rw [if_pos rfl]
      exact ⟨x.at_, x.lo⟩
    · rw [if_neg hik] at hi
      rw [if_neg (Ne.symm hik)]
      have hil : i < l.length := (List.getElem?_eq_some_iff.1 hi).1
      exact ⟨(x.beside (h1 i c t hi).1 (h2 i k hil hkl (Ne.symm hik))).1.more hM hc, (h1 i c t hi).2⟩
  · rw [List.length_set] at hi hj
    by_cases e1 : i = k
    · subst e1
      rw [if_pos rfl, if_neg (Ne.symm hij)]
      obtain ⟨⟨c, t⟩, hct⟩ : ∃ p, l[j]? = some p := ⟨_, List.getElem?_eq_getElem hj⟩
      have := (x.beside (h1 j c t hct).1 (h2 j i hj hi (Ne.symm hij))).2
      exact this.symm
    · rw [if_neg e1]
      by_cases e2 : j = k
      · subst e2
        rw [if_pos rfl]
        obtain ⟨⟨c, t⟩, hct⟩ : ∃ p, l[i]? = some p := ⟨_, List.getElem?_eq_getElem hi⟩
        exact (x.beside (h1 i c t hct).1 (h2 i j hi hj hij)).2
      · rw [if_neg e2]
        exact h2 i j hi hj hij
  · exact (x.but.block _ (heap_lt (h3 p hp).1) ((h3 p hp).2 k hkl)).trans (h3 p hp).1
  · rw [List.length_set] at hi
    by_cases e1 : i = k
    · rw [if_pos e1]
      intro hF
      rcases x.sub _ hF with e | e
      · exact (h3 p hp).2 k hkl e
      · have := heap_lt (h3 p hp).1
        omega
    · rw [if_neg e1]
      exact (h3 p hp).2 i hi
theorem Stos.add {F' : List Nat} (h : Stos B w wr N l G) (hB : B ≤ w.heap.size) (hb : Below wr.heap.size wr w') (hs : StoAt w' b F' N s) (hf : ∀ i ∈ F', wr.heap.size ≤ i) : Stos B w w' N (l ++ [(b, s)]) G := by
  have hq := h.below hB hb
  have z0 := h.1.size
  obtain ⟨h0, F, h1, h2, h3⟩ := h
  refine ⟨hq.1, fun i => if i < l.length then F i else F', fun i c t hi => ?_, fun i j hi hj hij => ?_, fun p hp => ⟨(hb.block _ (heap_lt (h3 p hp).1)).trans (h3 p hp).1, fun i hi => ?_⟩⟩
  all_goals (try dsimp only)
  · by_cases hl : i < l.length
    · rw [List.getElem?_append_left hl] at hi
      rw [if_pos hl]
      exact ⟨(h1 i c t hi).1.below hb, (h1 i c t hi).2⟩
    · rw [List.getElem?_append_right (by omega)] at hi
      have : i - l.length = 0 := by have := (List.getElem?_eq_some_iff.1 hi).1; simp at this; omega
      rw [this] at hi
      cases hi
      rw [if_neg hl]
      exact ⟨hs, fun i hi => by have := hf i hi; omega⟩
  · rw [List.length_append, List.length_singleton] at hi hj
    have hin : ∀ i, i < l.length → ∀ x ∈ F i, x < wr.heap.size := fun i hi x hx => (h1 i _ _ (List.getElem?_eq_getElem hi)).1.lt x hx
    by_cases e1 : i < l.length
    · rw [if_pos e1]
      by_cases e2 : j < l.length
      · rw [if_pos e2]
        exact h2 i j e1 e2 hij
      · rw [if_neg e2]
        intro x hx hx'
        have := hin i e1 x hx
        have := hf x hx'
        omega
    · rw [if_neg e1]
      by_cases e2 : j < l.length
      · rw [if_pos e2]
        intro x hx hx'
        have := hin j e2 x hx'
        have := hf x hx
        omega
      · omega
  · by_cases hl : i < l.length
    · rw [if_pos hl]
      exact (h3 p hp).2 i hl
    · rw [if_neg hl]
      intro hF
      have := hf _ hF
      have := heap_lt (h3 p hp).1
      omega
end
section
variable {B N k b r : Nat} {w wr : World} {l : List (Nat × Sto)} {s s' : Sto} {n d : ByteArray} {z : Int} {G : List (Nat × Obj)}
theorem Stos.new (h : Stos B w wr N l G) (hB : B ≤ w.heap.size) (hc : N ≤ 1000000) : Calls Try.prog 8 #[] wr fun e w' => ∃ b, e = .returned (.pointer (some ⟨b, 0, none⟩)) ∧ Stos B w w' N (l ++ [(b, Sto.new)]) G := by
  refine (store_New wr).mono ?_
  rintro e w' ⟨rfl, h1, h2⟩
  exact ⟨_, rfl, h.add hB h2 (h1.more (Nat.zero_le _) hc) (by simp)⟩
theorem Stos.copy (h : Stos B w wr N l G) (hB : B ≤ w.heap.size) (hk : l[k]? = some (b, s)) : Calls Try.prog 13 #[.pointer (some ⟨b, 0, none⟩)] wr fun e w' => ∃ c, e = .returned (.pointer (some ⟨c, 0, none⟩)) ∧ Stos B w w' N (l ++ [(c, s)]) G := by
  obtain ⟨F, hs⟩ := h.at_ hk
  refine (store_Copy b F N s wr hs).mono ?_
  rintro e w' ⟨rfl, F', h1, h2, h3⟩
  exact ⟨_, rfl, h.add hB h2 h1 h3⟩
theorem Stos.put (h : Stos B w wr N l G) (hB : B ≤ w.heap.size) (hk : l[k]? = some (b, s)) (hr : s.put (n, d) = (s', z)) (hn : n.size ≤ maxLen) (hd : d.size ≤ maxLen) (hN : N + 1 ≤ 1000000) :
    Calls Try.prog 15 #[.pointer (some ⟨b, 0, none⟩), .agg #[.string n, .string d]] wr fun e w' => e = .returned (.int .i64 z) ∧ Stos B w w' (N + 1) (l.set k (b, s')) G := by
  obtain ⟨F, hs, ht⟩ := h.to hB hk (s' := s') (Nat.le_succ N) hN
  have hp := store_Put b F N s (n, d) hn hd hN wr hs
  rw [hr] at hp
  exact hp.mono fun e w' ⟨h1, h2⟩ => ⟨h1, ht h2⟩
theorem Stos.del (h : Stos B w wr N l G) (hB : B ≤ w.heap.size) (hk : l[k]? = some (b, s)) (hr : s.del n = (s', z)) (hn : n.size ≤ maxLen) (hN : N + 1 ≤ 1000000) :
    Calls Try.prog 48 #[.pointer (some ⟨b, 0, none⟩), .string n] wr fun e w' => e = .returned (.int .i64 z) ∧ Stos B w w' (N + 1) (l.set k (b, s')) G := by
  obtain ⟨F, hs, ht⟩ := h.to hB hk (s' := s') (Nat.le_succ N) hN
  have hp := store_Del b F N s n hn hN wr hs
  rw [hr] at hp
  exact hp.mono fun e w' ⟨h1, h2⟩ => ⟨h1, ht h2⟩
theorem Stos.sync (h : Stos B w wr N l G) (hB : B ≤ w.heap.size) (hk : l[k]? = some (b, s)) (hr : s.sync = (s', z)) (hN : N ≤ 1000000) :
    Calls Try.prog 53 #[.pointer (some ⟨b, 0, none⟩)] wr fun e w' => e = .returned (.int .i64 z) ∧ Stos B w w' N (l.set k (b, s')) G := by
  obtain ⟨F, hs, ht⟩ := h.to hB hk (s' := s') (Nat.le_refl N) hN
  have hp := store_Sync b F N s wr hs
  rw [hr] at hp
  exact hp.mono fun e w' ⟨h1, h2⟩ => ⟨h1, ht h2⟩
theorem Stos.strike {f : Flt} (h : Stos B w wr N l G) (hB : B ≤ w.heap.size) (hk : l[k]? = some (b, s)) (hr : s.strike f = (s', z)) (hf : f.fit) (hN : N + 1 ≤ 1000000) :
    Calls Try.prog 20 #[.pointer (some ⟨b, 0, none⟩), .agg #[.int .u8 f.kind, .int .i64 f.store, .int .i64 f.n, .int .i64 f.at_, .int .i64 f.c]] wr fun e w' => e = .returned (.int .i64 z) ∧ Stos B w w' (N + 1) (l.set k (b, s')) G := by
  obtain ⟨F, hs, ht⟩ := h.to hB hk (s' := s') (Nat.le_succ N) hN
  have hp := store_Strike b F N s f hf hN wr hs
  rw [hr] at hp
  exact hp.mono fun e w' ⟨h1, h2⟩ => ⟨h1, ht h2⟩
theorem Stos.crash {A : Option Addr} {m c : Nat} {keep : List Int} (h : Stos B w wr N l G) (hB : B ≤ w.heap.size) (hk : l[k]? = some (b, s)) (hr : s.crash keep = s') (hi : IntsAt wr wr.heap.size A m keep) (hN : N ≤ 1000000) :
    Calls Try.prog 56 #[.pointer (some ⟨b, 0, none⟩), .slice A m c] wr fun e w' => e = .returned (.int .i64 0) ∧ Stos B w w' N (l.set k (b, s')) G := by
  obtain ⟨F, hs, ht⟩ := h.to hB hk (s' := s') (Nat.le_refl N) hN
  have hp := store_Crash b F N s A m c keep wr hs hi
  rw [hr] at hp
  exact hp.mono fun e w' ⟨h1, h2⟩ => ⟨h1, ht h2⟩
theorem Stos.get (h : Stos B w wr N l G) (hk : l[k]? = some (b, s)) (hr : s.get n = (d, z)) (hn : n.size ≤ maxLen) :
    Calls Try.prog 46 #[.pointer (some ⟨b, 0, none⟩), .string n] wr fun e w' => e = .returned (.tuple #[.string d, .int .i64 z]) ∧ w' = wr := by
  obtain ⟨F, hs⟩ := h.at_ hk
  have hp := store_Get b F N s n hn wr hs
  rw [hr] at hp
  exact hp
theorem Stos.has {v : Bool} (h : Stos B w wr N l G) (hk : l[k]? = some (b, s)) (hr : s.has n d = v) (hn : n.size ≤ maxLen) :
    Calls Try.prog 63 #[.pointer (some ⟨b, 0, none⟩), .string n, .string d] wr fun e w' => e = .returned (.bool v) ∧ w' = wr := by
  obtain ⟨F, hs⟩ := h.at_ hk
  have hp := law_has b F N s n d hn wr hs
  rw [hr] at hp
  exact hp
theorem Stos.up {v : Bool} (h : Stos B w wr N l G) (hk : l[k]? = some (b, s)) (hr : (!s.down) = v) :
    Calls Try.prog 18 #[.pointer (some ⟨b, 0, none⟩)] wr fun e w' => e = .returned (.bool v) ∧ w' = wr := by
  obtain ⟨F, hs⟩ := h.at_ hk
  have hp := store_Up b F N s wr hs
  rw [hr] at hp
  exact hp
theorem Stos.sound {v : Bool} (h : Stos B w wr N l G) (hk : l[k]? = some (b, s)) (hr : s.sound = v) :
    Calls Try.prog 19 #[.pointer (some ⟨b, 0, none⟩)] wr fun e w' => e = .returned (.bool v) ∧ w' = wr := by
  obtain ⟨F, hs⟩ := h.at_ hk
  have hp := store_Sound b F N s wr hs
  rw [hr] at hp
  exact hp
theorem Stos.objs {n : Nat} {os : List Ob} (h : Stos B w wr N l G) (hB : B ≤ w.heap.size) (hk : l[k]? = some (b, s)) (hr : s.seen = os) (hn : os.length = n) :
    Calls Try.prog 26 #[.pointer (some ⟨b, 0, none⟩)] wr fun e w' => ∃ A c, e = .returned (.slice A n c) ∧ ObsAt w' w'.heap.size A n os ∧ Stos B w w' N l G := by
  obtain ⟨F, hs⟩ := h.at_ hk
  have hp := store_Objects b F N s wr hs
  rw [hr] at hp
  refine hp.mono ?_
  rintro e w' ⟨v, rfl, ho, hb⟩
  obtain ⟨A, c, rfl⟩ : ∃ A c, v = .slice A n c := by
    obtain ⟨A, c, e⟩ := Owns.form ho
    rw [hn] at e
    exact ⟨A, c, e⟩
  exact ⟨A, c, rfl, Owns.row (k := 2) (fun x => objE.len x) ho, h.below hB hb⟩
theorem Stos.list {n : Nat} (h : Stos B w wr N l G) (hB : B ≤ w.heap.size) (hk : l[k]? = some (b, s)) (hr : s.list.2 = z) (hn : s.list.1.length = n) :
    Calls Try.prog 50 #[.pointer (some ⟨b, 0, none⟩)] wr fun e w' => ∃ A c, e = .returned (.tuple #[.slice A n c, .int .i64 z]) ∧ Stos B w w' N l G := by
  obtain ⟨F, hs⟩ := h.at_ hk
  have hp := store_List b F N s wr hs
  rw [hr] at hp
  refine hp.mono ?_
  rintro e w' ⟨v, rfl, ho, hb⟩
  obtain ⟨A, c, rfl⟩ : ∃ A c, v = .slice A n c := by
    obtain ⟨A, c, e⟩ := Owns.form ho
    rw [hn] at e
    exact ⟨A, c, e⟩
  exact ⟨A, c, rfl, h.below hB hb⟩
theorem Stos.o (h : Stos B w wr N l G) (hB : B ≤ w.heap.size) : Calls Try.prog 16 #[.string n, .string d] wr fun e w' => e = .returned (.agg #[.string n, .string d]) ∧ Stos B w w' N l G := by
  refine (law_o n d wr).mono ?_
  rintro e w' ⟨rfl, hb⟩
  exact ⟨rfl, h.below hB hb⟩
theorem Stos.same {j c : Nat} {t : Sto} {v : Bool} (h : Stos B w wr N l G) (hB : B ≤ w.heap.size) (hk : l[k]? = some (b, s)) (hj : l[j]? = some (c, t)) (cs : s.seen = fullGo s.writes s.good) (ct : t.seen = fullGo t.writes t.good) (hr : sameS s t = v) :
    Calls Try.prog 11 #[.pointer (some ⟨b, 0, none⟩), .pointer (some ⟨c, 0, none⟩)] wr fun e w' => e = .returned (.bool v) ∧ Stos B w w' N l G := by
  obtain ⟨F, hs⟩ := h.at_ hk
  obtain ⟨G, ht⟩ := h.at_ hj
  have hp := store_Same b c F G N N s t cs ct wr hs ht
  rw [hr] at hp
  refine hp.mono ?_
  rintro e w' ⟨rfl, hb⟩
  exact ⟨rfl, h.below hB hb⟩
end
theorem ints_new (w : World) (l : List Int) (hl : l.length ≤ 9223372036854775807) : IntsAt (w.alloc (.cells (l.map (fun i => .int .i64 i)).toArray 3)) (w.alloc (.cells (l.map (fun i => .int .i64 i)).toArray 3)).heap.size (some ⟨w.heap.size, 0, none⟩) l.length l := by
  refine ⟨rfl, hl, fun _ => ⟨_, _, rfl, by simp, fun i x hx j v hv => ?_⟩⟩
  rw [cell_of_row _ _ _ _ 3 (0, 0) (heap_alloc_new w _)]
  obtain rfl : j = 0 := by have := (List.getElem?_eq_some_iff.1 hv).1; simpa [intCell] using this
  simp [intCell] at hv
  subst hv
  simp [hx]
end Go.Proofs.Ytfkonpmnclknaaa
