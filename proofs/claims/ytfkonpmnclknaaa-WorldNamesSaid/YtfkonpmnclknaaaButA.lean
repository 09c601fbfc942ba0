/-
  Plain laws of a store's calls that were refused; rows beside a call that changes blocks.
-/
import Derived.Test.YtfkonpmnclknaaaStoI
import Derived.Test.YtfkonpmnclknaaaObsL
namespace Go.Proofs.Ytfkonpmnclknaaa
open Go.RowKit

/-- What a write comes to: it is done, it is the one that is refused, or it is not tried. -/
def Outc (s s' : Sto) (r : Int) : Prop := (r = 0 ∧ s.refNow = false ∧ s'.refuse = s.tried.refuse ∧ s'.down = s.tried.down) ∨ (r = 53 ∧ s.refNow = true ∧ s' = s.tried) ∨ (r ≠ 0 ∧ r ≠ 53 ∧ s' = s)
theorem put_out (s : Sto) (o : Ob) : Outc s (s.put o).1 (s.put o).2 := by
  unfold Sto.put
  split
  · exact .inr (.inr ⟨by simp, by simp, rfl⟩)
  · split
    · exact .inr (.inr ⟨by simp, by simp, rfl⟩)
    · split
      · exact .inr (.inr ⟨by simp, by simp, rfl⟩)
      · split
        · rename_i h
          exact .inr (.inl ⟨rfl, h, rfl⟩)
        · rename_i h
          exact .inl ⟨rfl, by simpa using h, rfl, rfl⟩
theorem del_out (s : Sto) (n : ByteArray) : Outc s (s.del n).1 (s.del n).2 := by
  unfold Sto.del
  split
  · split
    · rename_i h
      exact .inr (.inl ⟨rfl, h, rfl⟩)
    · rename_i h
      exact .inl ⟨rfl, by simpa using h, rfl, rfl⟩
  · rename_i h
    rcases get_none (s := s) (n := n) with e | e | e
    · exact absurd e h
    · exact .inr (.inr ⟨by rw [e]; decide, by rw [e]; decide, rfl⟩)
    · exact .inr (.inr ⟨by rw [e]; decide, by rw [e]; decide, rfl⟩)
theorem tried_down (s : Sto) : s.tried.down = s.down := by unfold Sto.tried; split <;> rfl
/-- How many writes were done, how many refused; how many are done still. -/
def RefInv (s : Sto) (a d r : Nat) : Prop := s.down = false ∧ ((r = 0 ∧ s.refuse = (a : Int) - d ∧ d ≤ a) ∨ (r = 1 ∧ s.refuse = -1))
theorem refInv_done {s s' : Sto} {a d r : Nat} (h : RefInv s a d r) (h1 : s.refNow = false) (h2 : s'.refuse = s.tried.refuse) (h3 : s'.down = s.tried.down) : RefInv s' a (d + 1) r := by
  obtain ⟨k0, k1⟩ := h
  have e1 : s.refuse ≠ 0 := by simpa [Sto.refNow] using h1
  refine ⟨by rw [h3, tried_down, k0], ?_⟩
  rcases k1 with ⟨e, e2, e3⟩ | ⟨e, e2⟩
  · refine .inl ⟨e, ?_, by omega⟩
    rw [h2]
    unfold Sto.tried
    rw [if_neg (by omega)]
    show s.refuse - 1 = _
    omega
  · refine .inr ⟨e, ?_⟩
    rw [h2]
    unfold Sto.tried
    rw [if_pos (by omega), e2]
theorem refInv_no {s : Sto} {a d r : Nat} (h : RefInv s a d r) (h1 : s.refNow = true) : r = 0 ∧ d = a ∧ RefInv s.tried a d 1 := by
  obtain ⟨k0, k1⟩ := h
  have e1 : s.refuse = 0 := by simpa [Sto.refNow] using h1
  rcases k1 with ⟨e, e2, e3⟩ | ⟨e, e2⟩
  · refine ⟨e, by omega, by rw [tried_down]; exact k0, .inr ⟨rfl, ?_⟩⟩
    unfold Sto.tried
    rw [if_neg (by omega)]
    show s.refuse - 1 = _
    omega
  · omega
theorem outc_seen {s s' : Sto} {r : Int} (h : Outc s s' r) (hr : r ≠ 0) : s'.seen = s.seen := by
  rcases h with ⟨e, _⟩ | ⟨_, _, e⟩ | ⟨_, _, e⟩
  · exact absurd e hr
  · rw [e, tried_seen]
  · rw [e]

theorem RowAt.but {α : Type} {k : Nat} {enc : α → List Value} {w w' : World} {B n : Nat} {A : Option Addr} {l : List α} {F : List Nat} (h : RowAt k enc w B A n l) (hb : But F w w') (hB : B ≤ w.heap.size) (hA : ∀ b off, A = some ⟨b, off, none⟩ → b ∉ F) : RowAt k enc w' B A n l := by
  refine ⟨h.1, h.2.1, fun hn => ?_⟩
  obtain ⟨b, off, e, hB', hc⟩ := h.2.2 hn
  exact ⟨b, off, e, hB', fun i x hx j v hv => (World.cell?_of_block (a := ⟨b, off + i * k + j, none⟩) (hb.block b (by omega) (hA b off e))).trans (hc i x hx j v hv)⟩
theorem RowAt.but0 {α : Type} {k : Nat} {enc : α → List Value} {w w' : World} {B n : Nat} {A : Option Addr} {l : List α} {F : List Nat} (h : RowAt k enc w B A n l) (hb : But F w w') (hB : B ≤ w.heap.size) (hA : 0 < n → ∀ b off, A = some ⟨b, off, none⟩ → b ∉ F) : RowAt k enc w' B A n l := by
  refine ⟨h.1, h.2.1, fun hn => ?_⟩
  obtain ⟨b, off, e, hB', hc⟩ := h.2.2 hn
  exact ⟨b, off, e, hB', fun i x hx j v hv => (World.cell?_of_block (a := ⟨b, off + i * k + j, none⟩) (hb.block b (by omega) (hA hn b off e))).trans (hc i x hx j v hv)⟩
theorem own_apart {k : Nat} {enc : Ob → List Value} {T : TypeId} {w : World} {base n c : Nat} {A : Option Addr} {l : List Ob} (h : Owns k enc T w base (.slice A n c) l) {F : List Nat} (hF : ∀ i ∈ F, i < base) : ∀ b off, A = some ⟨b, off, none⟩ → b ∉ F := fun b off e hb => by
  have h1 := hF b hb
  rcases h.2 with ⟨e1, _⟩ | ⟨g, cap, cur, e1, hg, _⟩
  · cases e1
    cases e
  · cases e1
    cases e
    omega

theorem kind_mod2 {k : Int} (h0 : 0 ≤ k) : Value.int .u8 (k.tmod 2) = .int .u8 0 ∨ Value.int .u8 (k.tmod 2) = .int .u8 1 := by
  rw [Int.tmod_eq_emod_of_nonneg h0]
  have : k % 2 = 0 ∨ k % 2 = 1 := by omega
  rcases this with e | e
  · exact .inl (by rw [e])
  · exact .inr (by rw [e])

end Go.Proofs.Ytfkonpmnclknaaa
/-
  Plain laws of what is left behind a crash, and of what all writes make.
-/
namespace Go.Proofs.Ytfkonpmnclknaaa
open Go.RowKit

def fullO (g : List Ob) (x : Wr) : List Ob := if x.del = true then delO g x.name else putO g (x.name, x.data)
def fullGo (ws : List Wr) (g : List Ob) : List Ob := ws.foldl fullO g
theorem cutB_big {d : ByteArray} (h : d.size ≤ 65536) : cutB d 65536 = d := by
  unfold cutB
  rw [show (min (65536 : Int) (d.size : Int)).toNat = d.size by omega]
  exact ByteArray.extract_zero_size
theorem keptO_big {g : List Ob} {x : Wr} (h : x.data.size ≤ 65536) : keptO g x 65536 = fullO g x := by
  unfold keptO fullO
  rw [if_neg (by decide), cutB_big h]
theorem crashGo_big : ∀ (ws : List Wr) (m : Nat) (g : List Ob), (∀ x ∈ ws, x.data.size ≤ 65536) → ws.length ≤ m → crashGo ws (List.replicate m 65536) g = fullGo ws g
  | [], _, _, _, _ => rfl
  | x :: ws, 0, _, _, h => by simp at h
  | x :: ws, m + 1, g, hx, h => by
    rw [List.replicate_succ]
    simp only [crashGo, fullGo, List.foldl_cons]
    rw [keptO_big (hx x List.mem_cons_self)]
    exact crashGo_big ws m _ (fun y hy => hx y (List.mem_cons_of_mem _ hy)) (by simpa using h)
theorem keptO_mem {g : List Ob} {x : Wr} {k : Int} {p : Ob} (h : p ∈ keptO g x k) : p ∈ g ∨ (x.del = false ∧ x.name = p.1 ∧ p.2 = cutB x.data k) := by
  unfold keptO at h
  split at h
  · exact .inl h
  · split at h
    · exact .inl (delO_mem.1 h).1
    · rename_i hd
      rcases putO_mem.1 h with rfl | ⟨h, _⟩
      · exact .inr ⟨by simpa using hd, rfl, rfl⟩
      · exact .inl h
theorem crashGo_mem : ∀ {ws : List Wr} {ks : List Int} {g : List Ob} {p : Ob}, p ∈ crashGo ws ks g → p ∈ g ∨ ∃ x ∈ ws, x.del = false ∧ x.name = p.1 ∧ ∃ k, p.2 = cutB x.data k
  | [], _, _, _, h => .inl h
  | _ :: _, [], _, _, h => .inl h
  | x :: ws, k :: ks, g, p, h => by
    rcases crashGo_mem (ws := ws) (ks := ks) h with h | ⟨y, hy, hh⟩
    · rcases keptO_mem h with h | ⟨h1, h2, h3⟩
      · exact .inl h
      · exact .inr ⟨x, List.mem_cons_self, h1, h2, k, h3⟩
    · exact .inr ⟨y, List.mem_cons_of_mem _ hy, hh⟩
theorem keptO_gone {g : List Ob} {x : Wr} {k : Int} {n : ByteArray} (h : ∃ q ∈ g, q.1 = n) : (∃ q ∈ keptO g x k, q.1 = n) ∨ (x.del = true ∧ x.name = n) := by
  obtain ⟨q, hq, rfl⟩ := h
  unfold keptO
  split
  · exact .inl ⟨q, hq, rfl⟩
  · split
    · rename_i hd
      by_cases e : x.name = q.1
      · exact .inr ⟨hd, e⟩
      · exact .inl ⟨q, delO_mem.2 ⟨hq, fun e' => e e'.symm⟩, rfl⟩
    · by_cases e : x.name = q.1
      · exact .inl ⟨_, putO_mem.2 (.inl rfl), e⟩
      · exact .inl ⟨q, putO_mem.2 (.inr ⟨hq, fun e' => e e'.symm⟩), rfl⟩
theorem crashGo_gone : ∀ {ws : List Wr} {ks : List Int} {g : List Ob} {n : ByteArray}, (∃ q ∈ g, q.1 = n) → (∃ q ∈ crashGo ws ks g, q.1 = n) ∨ ∃ x ∈ ws, x.del = true ∧ x.name = n
  | [], _, _, _, h => .inl h
  | _ :: _, [], _, _, h => .inl h
  | x :: ws, k :: ks, g, n, h => by
    rcases keptO_gone (x := x) (k := k) h with h | h
    · rcases crashGo_gone (ws := ws) (ks := ks) h with h | ⟨y, hy, hh⟩
      · exact .inl h
      · exact .inr ⟨y, List.mem_cons_of_mem _ hy, hh⟩
    · exact .inr ⟨x, List.mem_cons_self, h⟩
theorem cutB_ext (d : ByteArray) (k : Int) : d.extract 0 (cutB d k).size = cutB d k := by
  have h : (cutB d k).size = (min k (d.size : Int)).toNat := by
    unfold cutB
    rw [ByteArray.size_extract]
    omega
  rw [h]
  rfl

theorem fullGo_snoc (ws : List Wr) (x : Wr) (g : List Ob) : fullGo (ws ++ [x]) g = fullO (fullGo ws g) x := by simp [fullGo, List.foldl_append]
/-- What is seen is what all writes make of what stands for good. -/
abbrev Coh (s : Sto) : Prop := s.seen = fullGo s.writes s.good
end Go.Proofs.Ytfkonpmnclknaaa
