/-
  What was synced stands behind a crash: the plain law.
-/
import Derived.Test.YtfkonpmnclknaaaGreatWldQ
namespace Go.Proofs.YtfkonpmnclknaaaGreat
open Go.RowKit

/-- An object that is synced, and not written since. -/
structure Kept (s : Sto) (n d : ByteArray) : Prop where
  up : s.down = false
  good : lookO s.good n = some d
  seen : lookO s.seen n = some d
  ws : ∀ x ∈ s.writes, x.name ≠ n
section
variable {s : Sto} {n d : ByteArray}
theorem Kept.tried (h : Kept s n d) : Kept s.tried n d := by
  have hd : s.tried.down = s.down := by unfold Sto.tried; split <;> rfl
  exact ⟨hd.trans h.up, by rw [tried_good]; exact h.good, by rw [tried_seen]; exact h.seen, by rw [tried_writes]; exact h.ws⟩
theorem Kept.put (h : Kept s n d) {o : Ob} (ho : o.1 ≠ n) : Kept (s.put o).1 n d := by
  unfold Sto.put
  split
  · exact h
  · split
    · exact h
    · split
      · exact h
      · split
        · exact h.tried
        · refine ⟨h.tried.up, h.tried.good, ?_, fun x hx => ?_⟩
          · show lookO (putO s.seen o) n = some d
            rw [lookO_put, if_neg ho]
            exact h.seen
          · rcases List.mem_append.1 hx with hx | hx
            · exact h.ws x hx
            · simp at hx; subst hx; exact ho
theorem Kept.del (h : Kept s n d) {m : ByteArray} (hm : m ≠ n) : Kept (s.del m).1 n d := by
  unfold Sto.del
  split
  · split
    · exact h.tried
    · refine ⟨h.tried.up, h.tried.good, ?_, fun x hx => ?_⟩
      · show lookO (delO s.seen m) n = some d
        rw [lookO_del, if_neg hm]
        exact h.seen
      · rcases List.mem_append.1 hx with hx | hx
        · exact h.ws x hx
        · simp at hx; subst hx; exact hm
  · exact h
theorem Kept.sync (h : Kept s n d) : Kept s.sync.1 n d := by
  unfold Sto.sync
  split
  · exact h
  · exact ⟨h.up, h.seen, h.seen, by simp [Sto.settled]⟩
theorem crashGo_look : ∀ (ws : List Wr) (ks : List Int) (g : List Ob), (∀ x ∈ ws, x.name ≠ n) → lookO (crashGo ws ks g) n = lookO g n
  | [], _, _, _ => rfl
  | _ :: _, [], _, _ => rfl
  | x :: ws, k :: ks, g, h => by
    simp only [crashGo]
    rw [crashGo_look ws ks _ fun y hy => h y (List.mem_cons_of_mem _ hy)]
    have hx := h x List.mem_cons_self
    unfold keptO
    split
    · rfl
    · split
      · rw [lookO_del, if_neg hx]
      · rw [lookO_put, if_neg hx]
theorem Kept.crash (h : Kept s n d) (ks : List Int) : Kept (s.crash ks) n d :=
  ⟨h.up, (crashGo_look _ _ _ h.ws).trans h.good, (crashGo_look _ _ _ h.ws).trans h.good, by simp [Sto.crash]⟩
theorem Kept.get (h : Kept s n d) : s.get n = (d, 0) := by
  unfold Sto.get
  rw [h.up, h.seen]
  rfl
theorem Kept.new (h1 : (s.put (n, d)).2 = 0) : Kept (s.put (n, d)).1.sync.1 n d := by
  unfold Sto.put at h1 ⊢
  split at h1
  · cases h1
  · rename_i c1
    split at h1
    · cases h1
    · rename_i c2
      split at h1
      · cases h1
      · rename_i c3
        split at h1
        · cases h1
        · rename_i c4
          rw [if_neg c1, if_neg c2, if_neg c3, if_neg c4]
          have hd : s.tried.down = false := by
            have : s.tried.down = s.down := by unfold Sto.tried; split <;> rfl
            rw [this]
            simpa using c2
          unfold Sto.sync
          rw [if_neg (by show ¬ s.tried.down = true; rw [hd]; simp)]
          have hl : lookO (putO s.seen (n, d)) n = some d := by rw [lookO_put, if_pos rfl]
          exact ⟨hd, hl, hl, by simp [Sto.settled]⟩
end

def KeptW (m : Wld) (k : Nat) (n d : ByteArray) : Prop := ∃ s u, m.stores[k]? = some (s, u) ∧ Kept s n d
section
variable {m : Wld} {k : Nat} {n d : ByteArray}
theorem put_here {i : Nat} {s : Sto} {p : Sto × Bool} (h : m.stores[i]? = some p) : (m.put i s).stores[i]? = some (s, p.2) := by
  rw [put_at, h]
  simp
theorem KeptW.go (h : KeptW m k n d) {i : Int} {g : Sto → Sto} (hg : i = k → ∀ s, Kept s n d → Kept (g s) n d) : KeptW (m.go i g) k n d := by
  by_cases hi : i = k
  · obtain ⟨s, u, h1, h2⟩ := h
    have hk : i.toNat = k := by omega
    unfold Wld.go
    split
    · split
      · exact ⟨s, u, h1, h2⟩
      · rw [hk, h1]
        exact ⟨_, _, put_here (m := m.tick) h1, hg hi s h2⟩
    · exact ⟨s, u, h1, h2⟩
  · obtain ⟨s, u, h1, h2⟩ := h
    exact ⟨s, u, (go_apart hi).trans h1, h2⟩
theorem KeptW.strike (h : KeptW m k n d) {f : Flt} (hf : f.store ≠ k) : KeptW (m.strike f).1 k n d := by
  obtain ⟨s, u, h1, h2⟩ := h
  exact ⟨s, u, (strike_apart hf).trans h1, h2⟩
theorem KeptW.crash (h : KeptW m k n d) (ks : List (List Int)) : KeptW (m.crash ks) k n d := by
  obtain ⟨s, u, h1, h2⟩ := h
  have hk : k < m.stores.length := (List.getElem?_eq_some_iff.1 h1).1
  refine ⟨s.crash (ks.getD k []), u, ?_, h2.crash _⟩
  unfold Wld.crash Wld.crashTo
  dsimp only
  rw [List.getElem?_mapIdx, h1]
  simp [hk]
theorem KeptW.step (h : KeptW m k n d) {a : Stepx} (h7 : ¬ (a.kind = 7 ∧ a.f.store = k)) (h0 : ¬ ((a.kind = 0 ∨ a.kind = 2) ∧ a.name = n)) : KeptW (m.step a) k n d := by
  unfold Wld.step
  by_cases e0 : a.kind = 0
  · rw [if_pos e0]; exact h.go fun _ s hs => hs.put fun e => h0 ⟨.inl e0, e⟩
  rw [if_neg e0]
  by_cases e1 : a.kind = 1
  · rw [if_pos e1]; exact h.go fun _ s hs => hs
  rw [if_neg e1]
  by_cases e2 : a.kind = 2
  · rw [if_pos e2]; exact h.go fun _ s hs => hs.del fun e => h0 ⟨.inr e2, e⟩
  rw [if_neg e2]
  by_cases e3 : a.kind = 3
  · rw [if_pos e3]; exact h.go fun _ s hs => hs
  rw [if_neg e3]
  by_cases e4 : a.kind = 4
  · rw [if_pos e4]; exact h.go fun _ s hs => hs.sync
  rw [if_neg e4]
  by_cases e5 : a.kind = 5
  · rw [if_pos e5]
    obtain ⟨s, u, h1, h2⟩ := h
    refine ⟨s, u, ?_, h2⟩
    unfold Wld.cut
    split
    · exact h1
    · exact h1
  rw [if_neg e5]
  by_cases e6 : a.kind = 6
  · rw [if_pos e6]; exact h.crash _
  rw [if_neg e6]
  by_cases e7 : a.kind = 7
  · rw [if_pos e7]; exact h.strike fun e => h7 ⟨e7, e⟩
  rw [if_neg e7]
  obtain ⟨s, u, h1, h2⟩ := h
  refine ⟨s, u && !s.sound, ?_, h2⟩
  unfold Wld.clear
  dsimp only
  rw [List.getElem?_map, h1]
  rfl
/-- Put and synced: it is kept. -/
theorem KeptW.new {i : Int} {o : Ob} (h1 : (m.err i fun s => (s.put o).2) = 0) (h2 : ((m.go i fun s => (s.put o).1).err i fun s => s.sync.2) = 0) : ∃ k : Nat, i = k ∧ k < m.stores.length ∧ KeptW ((m.go i fun s => (s.put o).1).go i fun s => s.sync.1) k o.1 o.2 := by
  have hh : m.has i = true := by
    cases e : m.has i with
    | true => rfl
    | false => unfold Wld.err at h1; rw [ans_no e] at h1; cases h1
  have hd : m.tick.dark = false := by
    cases e : m.tick.dark with
    | false => rfl
    | true => unfold Wld.err at h1; rw [ans_dark hh e] at h1; cases h1
  obtain ⟨k, rfl, hk, hkt⟩ := has_at hh
  obtain ⟨⟨s, u⟩, hs⟩ : ∃ p, m.stores[k]? = some p := ⟨_, List.getElem?_eq_getElem hk⟩
  have hs' : m.stores[(k : Int).toNat]? = some (s, u) := by rw [hkt]; exact hs
  have h1' : (s.put o).2 = 0 := by unfold Wld.err at h1; rw [ans_on hh hd hs'] at h1; exact h1
  have e1 : (m.go k fun s => (s.put o).1) = m.tick.put k (s.put o).1 := by rw [go_on hh hd hs', hkt]
  rw [e1] at h2 ⊢
  have hh2 : (m.tick.put k (s.put o).1).has k = true := by
    unfold Wld.has Wld.put
    dsimp only
    rw [List.length_modify]
    exact hh
  have hs2 : (m.tick.put k (s.put o).1).stores[(k : Int).toNat]? = some ((s.put o).1, u) := by rw [hkt]; exact put_here (m := m.tick) hs
  have hd2 : (m.tick.put k (s.put o).1).tick.dark = false := by
    cases e : (m.tick.put k (s.put o).1).tick.dark with
    | false => rfl
    | true => unfold Wld.err at h2; rw [ans_dark hh2 e] at h2; cases h2
  refine ⟨k, rfl, hk, ?_⟩
  rw [go_on hh2 hd2 hs2, hkt]
  exact ⟨_, _, put_here (m := (m.tick.put k (s.put o).1).tick) (by rw [hkt] at hs2; exact hs2), Kept.new h1'⟩
theorem KeptW.tell (h : KeptW m k n d) (hd : m.dark = false) (hl : m.left = -1) : m.get k n = (d, 0) := by
  obtain ⟨s, u, h1, h2⟩ := h
  have hk : k < m.stores.length := (List.getElem?_eq_some_iff.1 h1).1
  unfold Wld.get
  rw [ans_on (by unfold Wld.has; simp; omega) (by unfold Wld.tick; simp [hd, hl]) (show m.stores[(k : Int).toNat]? = some (s, u) from h1)]
  exact h2.get
end
end Go.Proofs.YtfkonpmnclknaaaGreat
