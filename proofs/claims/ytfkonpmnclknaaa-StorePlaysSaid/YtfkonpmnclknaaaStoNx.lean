/-
  What a call of one store leaves, for those that stand beside it.
-/
import Derived.Test.YtfkonpmnclknaaaStoI
namespace Go.Proofs.Ytfkonpmnclknaaa
open Go.RowKit Go.Maps

abbrev Sep (F G : List Nat) : Prop := ∀ i ∈ F, i ∉ G
/-- What a call of one store leaves, for those that stand beside it. -/
structure Next (B b : Nat) (F : List Nat) (N : Nat) (s : Sto) (w w' : World) (F' : List Nat) : Prop where
  at_ : StoAt w' b F' N s
  lo : ∀ i ∈ F', B ≤ i
  below : Below B w w'
  but : But F w w'
  sub : ∀ i ∈ F', i ∈ F ∨ w.heap.size ≤ i
theorem StoTo.next {B b N : Nat} {F : List Nat} {s : Sto} {w w' : World} (h : StoTo b F N s w w') (hB : ∀ i ∈ F, B ≤ i) (hs : B ≤ w.heap.size) : ∃ F', Next B b F N s w w' F' := by
  obtain ⟨F', h1, h2, h3⟩ := h
  refine ⟨F', h1, fun i hi => ?_, h2.below hs hB, h2, h3⟩
  rcases h3 i hi with e | e
  · exact hB i e
  · omega
theorem Next.beside {B b N c M : Nat} {F F' G : List Nat} {s t : Sto} {w w' : World} (h : Next B b F N s w w' F') (ht : StoAt w c G M t) (hs : Sep G F) : StoAt w' c G M t ∧ Sep G F' :=
  ⟨ht.but h.but hs, fun i hi hf => by
    rcases h.sub i hf with e | e
    · exact hs i hi e
    · have := ht.lt i hi; omega⟩
theorem Sep.symm {F G : List Nat} (h : Sep F G) : Sep G F := fun i hi hf => h i hf hi
theorem IntsAt.none_ (w : World) : IntsAt w w.heap.size none 0 [] := ⟨rfl, by omega, fun h => absurd h (by omega)⟩

theorem put_lit {b N : Nat} {F : List Nat} {s : Sto} {n d : ByteArray} {r : Int} (hr : (s.put (n, d)).2 = r) (hn : n.size ≤ maxLen) (hd : d.size ≤ maxLen) (hN : N + 1 ≤ 1000000) (w : World) (h : StoAt w b F N s) :
    Calls Try.prog 15 #[.pointer (some ⟨b, 0, none⟩), .agg #[.string n, .string d]] w fun e w' => e = .returned (.int .i64 r) ∧ StoTo b F (N + 1) (s.put (n, d)).1 w w' := by
  have := store_Put b F N s (n, d) hn hd hN w h
  rw [hr] at this
  exact this

theorem strike_refuse_lit {b N : Nat} {F : List Nat} {s : Sto} {n : Int} (h0 : 0 ≤ n) (h9 : n ≤ 9223372036854775807) (w : World) (h : StoAt w b F N s) :
    Calls Try.prog 20 #[.pointer (some ⟨b, 0, none⟩), .agg #[.int .u8 6, .int .i64 0, .int .i64 n, .int .i64 0, .int .i64 0]] w fun e w' => e = .returned (.int .i64 0) ∧ StoTo b F N { s with refuse := n } w w' :=
  strike_refuse b F N s 0 n 0 0 (by simp [Flt.bad]; omega) ⟨h9, by dsimp only; omega, by dsimp only; omega⟩ w h
theorem strike_room_lit {b N : Nat} {F : List Nat} {s : Sto} {n : Int} (h0 : 0 ≤ n) (h9 : n ≤ 9223372036854775807) (w : World) (h : StoAt w b F N s) :
    Calls Try.prog 20 #[.pointer (some ⟨b, 0, none⟩), .agg #[.int .u8 7, .int .i64 0, .int .i64 n, .int .i64 0, .int .i64 0]] w fun e w' => e = .returned (.int .i64 0) ∧ StoTo b F N { s with room := n } w w' :=
  strike_room b F N s 0 n 0 0 (by simp [Flt.bad]; omega) ⟨h9, by dsimp only; omega, by dsimp only; omega⟩ w h

end Go.Proofs.Ytfkonpmnclknaaa
