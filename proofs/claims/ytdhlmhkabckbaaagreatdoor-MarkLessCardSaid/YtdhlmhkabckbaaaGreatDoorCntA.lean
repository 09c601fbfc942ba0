/-
  Strings as keys of maps; what is sorted rises.
-/
import Derived.Test.YtdhlmhkabckbaaaGreatDoorStr
import Derived.Test.YtdhlmhkabckbaaaGreatDoorMem
import Derived.Test.YtdhlmhkabckbaaaGreatDoorLayG
import Derived.Maps.OwnOps
import Derived.Maps.OwnSet
import Derived.Shelf.SlIter.Nil
import Derived.Shelf.SortM.Plain
import Derived.Shelf.SortM.SortNone
import Derived.Test.YtdhlmhkabckbaaaGreatDoorLay
namespace Go.Proofs.YtdhlmhkabckbaaaGreatDoor
open Go.RowKit Go.Maps Go.Sort Go.Shelf

theorem strKeyed : Keyed Tryz.prog 9 := string_keyed Tryz.underlying9
abbrev skey (s : ByteArray) : Lit := .string s.data.toList
theorem skey_ne {a b : ByteArray} (h : a ≠ b) : skey a ≠ skey b := fun e => h (bl_inj (by simpa [skey] using e))
theorem skey_lit (s : ByteArray) : WideAt.IsKeyLit (skey s) := trivial

theorem sorts_in (m : Nat) : AnyZ.SortsIn Tryz.prog Tryz.sortedS_ren Fence.wide m :=
  ⟨fun blk off cap ss W hH hblk hsz => callsIn_wide.2 (AnyM.slices_Sort_string Tryz.sortS blk off cap ss W hH hblk hsz),
   fun p cap W => callsIn_wide.2 (AnyM.slices_Sort_string_none Tryz.sortS p cap W)⟩

/-- The strings of bytes l. -/
abbrev ofBytes (l : List UInt8) : ByteArray := ⟨l.toArray⟩
theorem bl_ofBytes (l : List UInt8) : bl (ofBytes l) = l := by simp [bl, ofBytes]
theorem rise_of_sorted {ss : List (List UInt8)} (hn : ss.Nodup) : RiseS ((ss.mergeSort (fun x y => decide (x ≤ y))).map ofBytes) := by
  have tr : ∀ a b c : List UInt8, decide (a ≤ b) = true → decide (b ≤ c) = true → decide (a ≤ c) = true := fun a b c h1 h2 => by simp only [decide_eq_true_eq] at *; exact List.le_trans h1 h2
  have to : ∀ a b : List UInt8, (decide (a ≤ b) || decide (b ≤ a)) = true := fun a b => by simp only [Bool.or_eq_true, decide_eq_true_eq]; exact List.le_total a b
  have h1 := List.pairwise_mergeSort tr to ss
  have h2 : (ss.mergeSort (fun x y => decide (x ≤ y))).Nodup := (List.mergeSort_perm ss _).nodup_iff.2 hn
  refine List.pairwise_map.2 ((h1.and h2).imp fun {a b} hab => ?_)
  rw [sLt_iff, bl_ofBytes, bl_ofBytes]
  have hle : a ≤ b := by simpa using hab.1
  by_cases h : a < b
  · exact h
  · exact absurd (List.le_antisymm hle (List.not_lt.1 h)) hab.2

end Go.Proofs.YtdhlmhkabckbaaaGreatDoor
/-
  A map from strings to numbers that counts how often each string stands in a list; its keys, sorted.
-/
namespace Go.Proofs.YtdhlmhkabckbaaaGreatDoor
open Go.RowKit Go.Maps Go.Sort Go.Shelf

theorem zeroInt (w : World) : (zeroValue 3).run Tryz.prog w = .ok (.int .i64 0) w := by kernel_rfl
/-- Block b is a map that counts the strings of L. -/
def CntAt (w : World) (b : Nat) (L : List ByteArray) : Prop :=
  L.length ≤ 1000000000 ∧ ∃ D : DataW Unit, w.ownsMap Tryz.prog 9 (plainElem Tryz.prog 3) b L.length D ∧
    (∀ s : ByteArray, Maps.has D (skey s) = decide (s ∈ L)) ∧ ∀ s : ByteArray, D.atKey (skey s) (.lit (.int .i64 0)) = .lit (.int .i64 (L.count s : Nat))

section
variable {w w' : World} {b : Nat} {L : List ByteArray}
theorem CntAt.made (w : World) : CntAt (w.alloc (.map #[] 0)) w.heap.size [] :=
  ⟨by simp, .map [], World.ownsMap_made w _ _ _, fun s => by simp [Maps.has], fun s => by simp [DataW.atKey]⟩
theorem CntAt.lt (h : CntAt w b L) : b < w.heap.size := by obtain ⟨_, _, h, _⟩ := h; exact h.lt
theorem CntAt.kept {row : Option Nat} (h : CntAt w b L) (hg : w.grownBy w' row) (hne : some b ≠ row) : CntAt w' b L := by
  obtain ⟨h0, D, h1, h2⟩ := h
  exact ⟨h0, D, h1.kept hg hne, h2⟩
theorem CntAt.alloc (h : CntAt w b L) (o : Obj) : CntAt (w.alloc o) b L := by
  obtain ⟨h0, D, h1, h2⟩ := h
  exact ⟨h0, D, h1.alloc o, h2⟩
theorem CntAt.drew (h : CntAt w b L) : CntAt w.drew b L := h
theorem CntAt.below (h : CntAt w b L) (hb : Below w.heap.size w w') : CntAt w' b L :=
  h.kept (row := none) ⟨hb.os, hb.tape, hb.output, hb.size, fun i hi _ => hb.block i hi⟩ (by simp)
end

theorem wpList_cnt_lookup (w : World) {ops : Array Oper} {rest : List Oper} {o : Oper} {a : Act} {Q : Exit → Act → World → Prop}
    (hg : o.guard = none) (m x : Operand) (hop : o.op = Op.lookup 61 m x false) (b : Nat) (L : List ByteArray)
    (hm : a.eval m = .map (some b)) (hown : CntAt w b L) (s : ByteArray) (hx : a.eval x = .string s) (hs : s.size ≤ maxLen)
    (hK : ∀ c : Nat, c ≤ 1000000000 → Hid (c = L.count s) → wpList Tryz.prog ops Q rest (a.put o.dst (.int .i64 c)) w) :
    wpList Tryz.prog ops Q (o :: rest) a w := by
  obtain ⟨h0, D, h1, h2, h3⟩ := hown
  refine wpList_lookup_own_int _ hg m x _ hop 9 3 .i64 strKeyed Tryz.underlying61 Tryz.underlying3 (zeroInt _) b L.length _ hm h1 _ _ hx (Go.WideMaps.keyOf_string_mk Tryz.underlying9 hs) ?_
  intro c hat _
  rw [h3] at hat
  simp at hat
  subst hat
  exact hK _ (Nat.le_trans (List.count_le_length) h0) rfl

theorem wpList_cnt_update (w : World) {ops : Array Oper} {rest : List Oper} {o : Oper} {a : Act} {Q : Exit → Act → World → Prop}
    (hg : o.guard = none) (m x v : Operand) (hop : o.op = Op.mapUpdate 61 m x v) (b : Nat) (L : List ByteArray)
    (hm : a.eval m = .map (some b)) (hown : CntAt w b L) (hL : L.length < 1000000000) (s : ByteArray) (hx : a.eval x = .string s) (hs : s.size ≤ maxLen) (c : Nat) (hc : Hid (c = L.count s)) (hv : a.eval v = .int .i64 ((c : Int) + 1))
    (hK : ∀ w', CntAt w' b (L ++ [s]) → w.grownBy w' (some b) → wpList Tryz.prog ops Q rest (a.put o.dst undef) w') :
    wpList Tryz.prog ops Q (o :: rest) a w := by
  obtain ⟨h0, D, h1, h2, h3⟩ := hown
  have hcl : c ≤ 1000000000 := by rw [hc.out]; exact Nat.le_trans List.count_le_length h0
  refine wpList_mapUpdate_own _ hg m x v _ hop 9 3 strKeyed Tryz.underlying61 _ b L.length _ hm h1 (by unfold maxLen; omega) _ _ _ hx hv (Go.WideMaps.keyOf_string_mk Tryz.underlying9 hs) _ [] (plainElem_int Tryz.underlying3 (WalkArith.wf_i64 (by omega))) ?_
  intro w1 hown1 hgrow1
  refine hK w1 ⟨by simp; omega, _, by simpa using hown1, fun t => ?_, fun t => ?_⟩ hgrow1
  · have hm1 : IsMap D := (h1.tidy strKeyed).isMap
    by_cases e : t = s
    · subst e
      rw [has_put_same hm1 (skey_lit _)]
      simp
    · rw [has_put_other (skey_ne e), h2]
      simp [e]
  · have hm1 : IsMap D := (h1.tidy strKeyed).isMap
    by_cases e : t = s
    · subst e
      rw [atKey_put_same hm1 (skey_lit _), hc.out]
      simp
    · rw [atKey_put_other (skey_ne e), h3]
      simp [e, Ne.symm e, List.count_append, List.count_singleton]

theorem size_of_own {w : World} {b n : Nat} {D : DataW Unit} (h : w.ownsMap Tryz.prog 9 (plainElem Tryz.prog 3) b n D) : Maps.size D ≤ n := by
  obtain ⟨es, clock, hb, F, hs, rfl⟩ := h
  rw [Maps.size_eq, length_sorted]
  simpa using hs

theorem maps_Keys (mb : Option Nat) (w : World) :
    Calls Tryz.prog 35 #[.map mb] w fun e w' => e = .returned (.func (.func 64) #[] #[.pointer (some ⟨w.heap.size, 0, none⟩)]) ∧ w' = w.alloc (.cells #[.map mb] 61) :=
  callsIn_wide.1 (AnyZ.keys_in Tryz.keysSI Fence.wide 5 trivial rfl mb w)

set_option maxHeartbeats 1000000 in
theorem sorted_raw (b nn : Nat) (D0 : DataW Unit) (w : World) (hown : w.ownsMap Tryz.prog 9 (plainElem Tryz.prog 3) b nn D0) (hmax : Maps.size D0 ≤ maxLen) (hbytes : Maps.size D0 * 16 ≤ 140737488355328) :
    CallsIn Fence.wide 5 Tryz.prog 34 #[.func (.func 64) #[] #[.pointer (some ⟨w.heap.size, 0, none⟩)]] (w.alloc (.cells #[.map (some b)] 61)) fun e w' => ∃ (v : Value) (ss : List (List UInt8)), e = .returned v ∧ ss.Perm (strKeys D0) ∧
      w'.ownsRow (w.alloc (.cells #[.map (some b)] 61)).heap.size 9 1 v ss.length ((ss.mergeSort (fun x y => decide (x ≤ y))).map encStr) ∧ (v = .slice none 0 0 ↔ ss = []) ∧ Below (w.alloc (.cells #[.map (some b)] 61)).heap.size (w.alloc (.cells #[.map (some b)] 61)) w' := by
  have hbl := hown.lt
  have hseq : SeqGives Fence.wide 2 Tryz.prog 64 #[.pointer (some ⟨w.heap.size, 0, none⟩)] encStr (fun ss => ss.Perm (strKeys D0)) (Maps.size D0) (w.alloc (.cells #[.map (some b)] 61)) :=
    AnyZ.keys_gives (ρ := Tryz.keysSI_ren) { Tryz.keysSI with } Fence.wide _ trivial rfl (by omega) w.heap.size b nn D0 _ (by simp) (by simp) (by
      obtain ⟨es, clock, hb, Ft, hs, hD⟩ := hown
      exact ⟨es, clock, (Below.heap_alloc _ _ b hbl).trans hb, Ft, hs, hD⟩)
  exact AnyZ.sorted_in Tryz.sortedS Fence.wide 5 trivial trivial trivial trivial rfl (by omega) (sorts_in _) (enters_of Tryz.func61 (by kernel_rfl) rfl) 64 #[.pointer (some ⟨w.heap.size, 0, none⟩)] trivial (enters_of Tryz.func64 (by kernel_rfl) rfl) _ _ hmax hbytes _ hseq

theorem mem_strKeys {w : World} {b n : Nat} {D : DataW Unit} (h : w.ownsMap Tryz.prog 9 (plainElem Tryz.prog 3) b n D) (x : List UInt8) : x ∈ strKeys D ↔ Maps.has D (.string x) = true := by
  obtain ⟨es, rfl, hk⟩ := h.keysOf
  rw [Maps.has_eq, List.any_eq_true]
  show x ∈ es.map (fun p => strOf p.1) ↔ _
  rw [List.mem_map]
  constructor
  · rintro ⟨p, hp, rfl⟩
    refine ⟨p, hp, ?_⟩
    obtain ⟨key, hk⟩ := hk p hp
    obtain ⟨y, _, hy, _⟩ := Maps.keyOf_str Tryz.underlying9 hk
    rw [hy]
    simp [Lit.sameKey, strOf]
  · rintro ⟨p, hp, hs⟩
    have := WideAt.sameKey_eq hs
    exact ⟨p, hp, by rw [this]; rfl⟩
theorem nodup_strKeys {w : World} {b n : Nat} {D : DataW Unit} (h : w.ownsMap Tryz.prog 9 (plainElem Tryz.prog 3) b n D) : (strKeys D).Nodup := by
  obtain ⟨es, rfl, hp⟩ := h.tidy strKeyed
  obtain ⟨es', e, hk⟩ := h.keysOf
  cases e
  show (es.map fun p => strOf p.1).Nodup
  refine List.pairwise_map.2 (hp.imp_of_mem fun {p q} hp' hq' hne e => hne ?_)
  obtain ⟨key, h1⟩ := hk p hp'
  obtain ⟨y, _, hy, _⟩ := Maps.keyOf_str Tryz.underlying9 h1
  obtain ⟨key', h1'⟩ := hk q hq'
  obtain ⟨y', _, hy', _⟩ := Maps.keyOf_str Tryz.underlying9 h1'
  rw [hy, hy'] at e ⊢
  exact congrArg _ e

/-- slices.Sorted(maps.Keys(m)) behind maps.Keys: what was counted, rising, each once. -/
theorem sorted_keys (b : Nat) (L : List ByteArray) (w : World) (h : CntAt w b L) :
    Calls Tryz.prog 34 #[.func (.func 64) #[] #[.pointer (some ⟨w.heap.size, 0, none⟩)]] (w.alloc (.cells #[.map (some b)] 61)) fun e w' =>
      ∃ v, e = .returned v ∧ Owns 1 strCell 9 w' (w.heap.size + 1) v (setS L) ∧ Below (w.heap.size + 1) (w.alloc (.cells #[.map (some b)] 61)) w' := by
  obtain ⟨h0, D, h1, h2, h3⟩ := h
  have hsz := size_of_own h1
  refine (callsIn_wide.1 (sorted_raw b _ D w h1 (by unfold maxLen; omega) (by omega))).mono ?_
  rintro e w' ⟨v, ss, rfl, hp, hrow, _, hb⟩
  have hs : ((ss.mergeSort (fun x y => decide (x ≤ y))).map ofBytes) = setS L := by
    refine setS_unique (rise_of_sorted (hp.nodup_iff.2 (nodup_strKeys h1))) fun z => ?_
    have hz := h2 z
    rw [List.mem_map]
    constructor
    · rintro ⟨x, hx, rfl⟩
      have hx' : x ∈ strKeys D := hp.mem_iff.1 ((List.mergeSort_perm ss _).mem_iff.1 hx)
      rw [mem_strKeys h1] at hx'
      simpa [skey, ofBytes, hx'] using hz
    · intro hz'
      refine ⟨bl z, (List.mergeSort_perm ss _).mem_iff.2 (hp.mem_iff.2 ((mem_strKeys h1 _).2 ?_)), bl_inj (bl_ofBytes _)⟩
      simpa [skey, hz'] using hz
  have hsz2 : (w.alloc (.cells #[.map (some b)] 61)).heap.size = w.heap.size + 1 := by simp
  rw [hsz2] at hrow hb
  refine ⟨v, rfl, ?_, hb⟩
  unfold Owns
  have hlen : (setS L).length = ss.length := by rw [← hs, List.length_map, List.length_mergeSort]
  have hfl : (setS L).flatMap strCell = (ss.mergeSort (fun x y => decide (x ≤ y))).map encStr := by
    rw [← hs]
    generalize ss.mergeSort (fun x y => decide (x ≤ y)) = m
    induction m with
    | nil => rfl
    | cons x m ih => rw [List.map_cons, List.flatMap_cons, ih]; rfl
  rw [hlen, hfl]
  exact hrow
end Go.Proofs.YtdhlmhkabckbaaaGreatDoor
