/-
  A map that has 1 for each of some texts; the contract of the law's among of chapter 24.
-/
import Derived.Test.YtcepdigeimedoaaCnt
import Derived.Test.YtcepdigeimedoaaCloneS
namespace Go.Proofs.Ytcepdigeimedoaa
open Go.RowKit Go.Maps Go.Sort Go.Shelf
attribute [local go_sem ↓] Go.wp_at_zero Go.wp_at_succ

/-- Block b is a map that has 1 for each string of L. -/
def OneAt (w : World) (b : Nat) (L : List ByteArray) : Prop :=
  L.length ≤ 1000000000 ∧ ∃ D : DataW Unit, w.ownsMap Try.prog 9 (plainElem Try.prog 3) b L.length D ∧
    (∀ s : ByteArray, Maps.has D (skey s) = decide (s ∈ L)) ∧ ∀ s : ByteArray, D.atKey (skey s) (.lit (.int .i64 0)) = .lit (.int .i64 (if s ∈ L then 1 else 0))
section
variable {w w' : World} {b : Nat} {L : List ByteArray}
theorem OneAt.made (w : World) : OneAt (w.alloc (.map #[] 0)) w.heap.size [] :=
  ⟨by simp, .map [], World.ownsMap_made w _ _ _, fun s => by simp [Maps.has], fun s => by simp [DataW.atKey]⟩
theorem OneAt.kept {row : Option Nat} (h : OneAt w b L) (hg : w.grownBy w' row) (hne : some b ≠ row) : OneAt w' b L := by
  obtain ⟨h0, D, h1, h2⟩ := h
  exact ⟨h0, D, h1.kept hg hne, h2⟩
theorem OneAt.below (h : OneAt w b L) (hb : Below w.heap.size w w') : OneAt w' b L :=
  h.kept (row := none) ⟨hb.os, hb.tape, hb.output, hb.size, fun i hi _ => hb.block i hi⟩ (by simp)
end
theorem wpList_one_lookup (w : World) {ops : Array Oper} {rest : List Oper} {o : Oper} {a : Act} {Q : Exit → Act → World → Prop}
    (hg : o.guard = none) (m x : Operand) (hop : o.op = Op.lookup 85 m x false) (b : Nat) (L : List ByteArray)
    (hm : a.eval m = .map (some b)) (hown : OneAt w b L) (s : ByteArray) (hx : a.eval x = .string s) (hs : s.size ≤ maxLen)
    (hK : ∀ c : Int, Hid (c = if s ∈ L then 1 else 0) → wpList Try.prog ops Q rest (a.put o.dst (.int .i64 c)) w) :
    wpList Try.prog ops Q (o :: rest) a w := by
  obtain ⟨h0, D, h1, h2, h3⟩ := hown
  refine wpList_lookup_own_int _ hg m x _ hop 9 3 .i64 strKeyed Try.underlying85 Try.underlying3 (zeroInt _) b L.length _ hm h1 _ _ hx (Go.WideMaps.keyOf_string_mk Try.underlying9 hs) ?_
  intro c hat _
  rw [h3] at hat
  have e : c = if s ∈ L then 1 else 0 := by
    split at hat <;> simp at hat <;> simp [*]
  exact hK c e
theorem wpList_one_update (w : World) {ops : Array Oper} {rest : List Oper} {o : Oper} {a : Act} {Q : Exit → Act → World → Prop}
    (hg : o.guard = none) (m x v : Operand) (hop : o.op = Op.mapUpdate 85 m x v) (b : Nat) (L : List ByteArray)
    (hm : a.eval m = .map (some b)) (hown : OneAt w b L) (hL : L.length < 1000000000) (s : ByteArray) (hx : a.eval x = .string s) (hs : s.size ≤ maxLen) (hv : a.eval v = .int .i64 1)
    (hK : ∀ w', OneAt w' b (L ++ [s]) → w.grownBy w' (some b) → wpList Try.prog ops Q rest (a.put o.dst undef) w') :
    wpList Try.prog ops Q (o :: rest) a w := by
  obtain ⟨h0, D, h1, h2, h3⟩ := hown
  refine wpList_mapUpdate_own _ hg m x v _ hop 9 3 strKeyed Try.underlying85 _ b L.length _ hm h1 (by unfold maxLen; omega) _ _ _ hx hv (Go.WideMaps.keyOf_string_mk Try.underlying9 hs) _ [] (plainElem_int Try.underlying3 (WalkArith.wf_i64 (by omega))) ?_
  intro w1 hown1 hgrow1
  refine hK w1 ⟨by simp; omega, _, by simpa using hown1, fun t => ?_, fun t => ?_⟩ hgrow1
  · have hm1 : IsMap D := (h1.tidy strKeyed).isMap
    by_cases e : t = s
    · subst e
      rw [has_put_same hm1 (skey_lit _)]
      simp
    · rw [has_put_other (skey_ne e), h2]
      simp [e]
  · have hm1 : IsMap D := (h1.tidy strKeyed).isMap
    by_cases e : t = s
    · subst e
      rw [atKey_put_same hm1 (skey_lit _)]
      simp
    · rw [atKey_put_other (skey_ne e), h3]
      simp [e]

set_option maxHeartbeats 2000000 in
theorem law24_among (A A' : Option Addr) (n n' c c' : Nat) (l l' : List ByteArray) (w : World) (h : StrsAt w w.heap.size A n l) (h' : StrsAt w w.heap.size A' n' l') (hs : ∀ x ∈ l, x.size ≤ maxLen) (hs' : ∀ x ∈ l', x.size ≤ maxLen) (hn : n' ≤ 100000000) :
    Calls Try.prog 47 #[.slice A n c, .slice A' n' c'] w fun e w' => e = .returned (.bool (decide (∀ x ∈ l, x ∈ l'))) ∧ Below w.heap.size w w' := by
  have hl := Lib.hid h.1
  have hl' := Lib.hid h'.1
  have hmm := @run_makeMap Try.prog
  have hn1 := h.2.1
  go_enter Try.func47, Try.ntmps47
  go_wp2_with fail
  go_loopw [6] (fun i wr => ∃ j : Nat, j ≤ n' ∧ i = .int .i64 j ∧ OneAt wr w.heap.size (l'.take j) ∧ Below w.heap.size w wr) (fun i _ => n' - (intOf i).toNat)
  case atStart => exact ⟨0, Nat.zero_le _, rfl, by simpa using OneAt.made w, (Below.refl _ _).alloc (Nat.le_refl _) _⟩
  case round =>
    obtain ⟨j, hj, rfl, hone, hbr⟩ := hrel
    obtain ⟨wj, rfl⟩ : ∃ x : World, x = wr := ⟨_, rfl⟩
    by_cases hlt : j < n'
    · obtain ⟨b0, off, d, rfl, hb0, hx, q0⟩ := (h'.to hbr).str hlt
      have hsz := Lib.hid (hs' d (List.mem_of_getElem? hx))
      have htk : Hid (l'.take (j + 1) = l'.take j ++ [d]) := by unfold Hid; rw [List.take_add_one, hx]; simp
      have hlen : (l'.take j).length < 1000000000 := by simp; omega
      replace hx := Lib.hid hx
      replace hlen := Lib.hid hlen
      go_wp2_with (at_mapUpdate; go_must (refine wpList_one_update _ rfl _ _ _ rfl w.heap.size _ rfl hone hlen.out d rfl hsz.out rfl ?_); intro w3 hone3 hg3)
      go_roundw
      case rel => exact ⟨j + 1, by omega, by go_num, by rw [htk.out]; exact hone3, hbr.grown hg3 hbr.size (fun _ hi => by cases hi; exact Nat.le_refl _)⟩
      case measure => simp [intOf]; omega
    · obtain rfl : j = n' := by omega
      have htk : l'.take j = l' := List.take_of_length_le (by have := hl'.out; omega)
      rw [htk] at hone
      replace htk := Lib.hid htk
      go_wp2_with fail
      go_loopw [7] (fun i wr => ∃ k : Nat, k ≤ n ∧ i = .int .i64 k ∧ Hid (∀ x ∈ l.take k, x ∈ l') ∧ Below wj.heap.size wj wr) (fun i _ => n - (intOf i).toNat)
      case atStart => exact ⟨0, Nat.zero_le _, rfl, by simp [Hid], Below.refl _ _⟩
      case round =>
        obtain ⟨k, hk, rfl, hall, hbk⟩ := hrel
        obtain ⟨wk, rfl⟩ : ∃ x : World, x = wr := ⟨_, rfl⟩
        have hbw := hbr.trans (hbk.mono hbr.size)
        have honek := hone.below hbk
        by_cases hlt2 : k < n
        · obtain ⟨b0, off, d, rfl, hb0, hx, q0⟩ := (h.to hbw).str hlt2
          have hsz := Lib.hid (hs d (List.mem_of_getElem? hx))
          by_cases hin : d ∈ l'
          · have hall' : Hid (∀ x ∈ l.take (k + 1), x ∈ l') := by
              unfold Hid
              intro x hx'
              rcases (mem_take_succ hx x).1 hx' with h1 | rfl
              · exact hall.out x h1
              · exact hin
            replace hx := Lib.hid hx
            go_wp2_with (at_lookup; go_must (refine wpList_one_lookup _ rfl _ _ rfl w.heap.size _ rfl honek d rfl hsz.out ?_); intro c9 hc9; rw [if_pos hin] at hc9; obtain rfl := hc9.out)
            go_roundw
            case rel => exact ⟨k + 1, by omega, by go_num, hall', hbk⟩
            case measure => simp [intOf]; omega
          · have hno : Hid (¬ ∀ x ∈ l, x ∈ l') := fun ha => hin (ha d (List.mem_of_getElem? hx))
            replace hx := Lib.hid hx
            go_wp2_with (at_lookup; go_must (refine wpList_one_lookup _ rfl _ _ rfl w.heap.size _ rfl honek d rfl hsz.out ?_); intro c9 hc9; rw [if_neg hin] at hc9; obtain rfl := hc9.out)
            go_ret
            exact ⟨ret_bool (decide_eq_false hno.out).symm, hbw⟩
        · obtain rfl : k = n := by omega
          have htk2 : l.take k = l := List.take_of_length_le (by have := hl.out; omega)
          rw [htk2] at hall
          replace htk2 := Lib.hid htk2
          go_wp2_with fail
          go_ret
          exact ⟨ret_bool (decide_eq_true hall.out).symm, hbw⟩
end Go.Proofs.Ytcepdigeimedoaa
