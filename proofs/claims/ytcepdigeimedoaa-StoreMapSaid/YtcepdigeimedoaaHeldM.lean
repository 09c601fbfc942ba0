/-
  A map from strings to what a map has of a name (a struct of one string).
-/
import Derived.Test.YtcepdigeimedoaaStoB
namespace Go.Proofs.Ytcepdigeimedoaa
open Go.RowKit Go.Maps Go.Sort Go.Shelf Go.ChangeMaps

abbrev hdm (s : ByteArray) : DataW Unit := .agg [.lit (.string (bl s))]
def heldElem (v : Value) : Option (DataW Unit × List MemPlace) := match v with
  | .agg a => match a.toList with
    | [.string s] => if s.size ≤ maxLen then some (hdm s, []) else none
    | _ => none
  | _ => none
theorem heldElem_mk {s : ByteArray} (hs : s.size ≤ maxLen) : heldElem (.agg #[.string s]) = some (hdm s, []) := by
  simp only [heldElem]
  rw [if_pos hs]
theorem heldElem_inv {v : Value} {z : DataW Unit × List MemPlace} (h : heldElem v = some z) : ∃ s : ByteArray, v = .agg #[.string s] ∧ z = (hdm s, []) ∧ s.size ≤ maxLen := by
  unfold heldElem at h
  split at h
  · rename_i a
    split at h
    · rename_i s e
      split at h
      · rename_i hs
        cases h
        obtain ⟨l⟩ := a
        simp at e
        subst e
        exact ⟨s, rfl, rfl, hs⟩
      · cases h
    · cases h
  · cases h
theorem zeroHeld (w : World) : (zeroValue 49).run Try.prog w = .ok (.agg #[.string ⟨#[]⟩]) w := by kernel_rfl

/-- Block b is a map, of N entries or fewer, that has the objects l. -/
def HeldAt (w : World) (b N : Nat) (l : List Ob) : Prop :=
  N ≤ 1000000000 ∧ RiseO l ∧ ∃ D : DataW Unit, w.ownsMap Try.prog 9 heldElem b N D ∧
    (∀ s : ByteArray, Maps.has D (skey s) = (lookO l s).isSome) ∧ ∀ s : ByteArray, D.atKey (skey s) (hdm ⟨#[]⟩) = hdm ((lookO l s).getD ⟨#[]⟩)

section
variable {w w' : World} {b N : Nat} {l : List Ob}
theorem HeldAt.made (w : World) (N : Nat) (hN : N ≤ 1000000000) : HeldAt (w.alloc (.map #[] 0)) w.heap.size N [] :=
  ⟨hN, List.Pairwise.nil, .map [], (World.ownsMap_made w _ _ _).mono (Nat.zero_le _), fun s => by simp [Maps.has, lookO], fun s => by simp [DataW.atKey, lookO]⟩
theorem HeldAt.lt (h : HeldAt w b N l) : b < w.heap.size := by obtain ⟨_, _, _, h, _⟩ := h; exact h.lt
theorem HeldAt.more (h : HeldAt w b N l) {M : Nat} (hM : N ≤ M) (hM9 : M ≤ 1000000000) : HeldAt w b M l := by
  obtain ⟨_, h0, D, h2, h3⟩ := h
  exact ⟨hM9, h0, D, h2.mono hM, h3⟩
theorem HeldAt.block (h : HeldAt w b N l) (hb : w'.heap[b]? = w.heap[b]?) : HeldAt w' b N l := by
  obtain ⟨h0, h1, D, ⟨es, clock, h2, h3⟩, h4⟩ := h
  exact ⟨h0, h1, D, ⟨es, clock, hb.trans h2, h3⟩, h4⟩
theorem HeldAt.below {B : Nat} (h : HeldAt w b N l) (hB : b < B) (hb : Below B w w') : HeldAt w' b N l := h.block (hb.block b hB)
theorem HeldAt.look_ok (h : HeldAt w b N l) (s : ByteArray) (hs : s.size ≤ maxLen) :
    (Instr.lookup 47 (.map (some b)) (.string s) true).run Try.prog w = .ok (.tuple #[.agg #[.string ((lookO l s).getD ⟨#[]⟩)], .bool (lookO l s).isSome]) w := by
  obtain ⟨_, _, D, h2, h3, h4⟩ := h
  obtain ⟨v, ps, hrun, hv⟩ := World.ownsMap.look_ok (w := w) h2 strKeyed Try.underlying47 (z := .agg #[.string ⟨#[]⟩]) (zeroHeld _) (zd := hdm ⟨#[]⟩) (zp := []) (heldElem_mk (by decide)) (Go.WideMaps.keyOf_string_mk Try.underlying9 hs)
  obtain ⟨x, rfl, hx, _⟩ := heldElem_inv hv
  have e := h4 s
  simp only [Prod.mk.injEq] at hx
  rw [hx.1] at e
  have : x = (lookO l s).getD ⟨#[]⟩ := bl_inj (by simpa [hdm] using e)
  rw [hrun, this, h3]
theorem HeldAt.look (h : HeldAt w b N l) (s : ByteArray) (hs : s.size ≤ maxLen) :
    (Instr.lookup 47 (.map (some b)) (.string s) false).run Try.prog w = .ok (.agg #[.string ((lookO l s).getD ⟨#[]⟩)]) w := by
  obtain ⟨_, _, D, h2, h3, h4⟩ := h
  obtain ⟨v, ps, hrun, hv⟩ := World.ownsMap.lookup (w := w) h2 strKeyed Try.underlying47 (z := .agg #[.string ⟨#[]⟩]) (zeroHeld _) (zd := hdm ⟨#[]⟩) (zp := []) (heldElem_mk (by decide)) (Go.WideMaps.keyOf_string_mk Try.underlying9 hs)
  obtain ⟨x, rfl, hx, _⟩ := heldElem_inv hv
  have e := h4 s
  simp only [Prod.mk.injEq] at hx
  rw [hx.1] at e
  have : x = (lookO l s).getD ⟨#[]⟩ := bl_inj (by simpa [hdm] using e)
  rw [hrun, this]
theorem HeldAt.put (h : HeldAt w b N l) (hN : N + 1 ≤ 1000000000) (o : Ob) (h1 : o.1.size ≤ maxLen) (h2 : o.2.size ≤ maxLen) :
    ∃ w', (Instr.mapUpdate 47 (.map (some b)) (.string o.1) (.agg #[.string o.2])).run Try.prog w = .ok () w' ∧ HeldAt w' b (N + 1) (putO l o) ∧ w.grownBy w' (some b) := by
  obtain ⟨_, hr, D, hD, h3, h4⟩ := h
  have hm : IsMap D := (hD.tidy strKeyed).isMap
  obtain ⟨w', hrun, hD', hg⟩ := hD.update strKeyed Try.underlying47 (by unfold maxLen; omega) (Go.WideMaps.keyOf_string_mk Try.underlying9 h1) (heldElem_mk h2)
  refine ⟨w', hrun, ⟨hN, riseO_put hr o, _, hD', fun t => ?_, fun t => ?_⟩, hg⟩
  · rw [lookO_put]
    by_cases e : o.1 = t
    · subst e
      rw [if_pos rfl]
      exact has_put_same hm (skey_lit _) _
    · rw [if_neg e, ← h3]
      exact has_put_other (skey_ne (fun e' => e e'.symm)) _
  · rw [lookO_put]
    by_cases e : o.1 = t
    · subst e
      rw [if_pos rfl]
      exact atKey_put_same hm (skey_lit _) _ _
    · rw [if_neg e, ← h4]
      exact atKey_put_other (skey_ne (fun e' => e e'.symm)) _ _
theorem HeldAt.del (h : HeldAt w b N l) (s : ByteArray) (h1 : s.size ≤ maxLen) (ty : TypeId) :
    ∃ w', (Builtin.delete_ #[47, 9] ty #[.map (some b), .string s]).run Try.prog w = .ok (.tuple #[]) w' ∧ HeldAt w' b N (delO l s) ∧ w.grownBy w' (some b) := by
  obtain ⟨h0, hr, D, hD, h3, h4⟩ := h
  have hm : IsMap D := (hD.tidy strKeyed).isMap
  obtain ⟨w', hrun, hD', hg⟩ := hD.drop strKeyed Try.underlying47 (Go.WideMaps.keyOf_string_mk Try.underlying9 h1) ty
  refine ⟨w', hrun, ⟨h0, riseO_del hr s, _, hD', fun t => ?_, fun t => ?_⟩, hg.grown⟩
  · rw [lookO_del]
    by_cases e : s = t
    · subst e
      rw [if_pos rfl]
      exact has_del_same
    · rw [if_neg e, ← h3]
      exact has_del_other (skey_ne (fun e' => e e'.symm))
  · rw [lookO_del]
    by_cases e : s = t
    · subst e
      rw [if_pos rfl]
      exact atKey_del_same _
    · rw [if_neg e, ← h4]
      exact atKey_del_other (skey_ne (fun e' => e e'.symm)) _
theorem mem_strKeysR {R : Value → Option (DataW Unit × List MemPlace)} {n : Nat} {D : DataW Unit} (h : w.ownsMap Try.prog 9 R b n D) (x : List UInt8) : x ∈ strKeys D ↔ Maps.has D (.string x) = true := by
  obtain ⟨es, rfl, hk⟩ := h.keysOf
  rw [Maps.has_eq, List.any_eq_true]
  show x ∈ es.map (fun p => strOf p.1) ↔ _
  rw [List.mem_map]
  constructor
  · rintro ⟨p, hp, rfl⟩
    refine ⟨p, hp, ?_⟩
    obtain ⟨key, hk⟩ := hk p hp
    obtain ⟨y, _, hy, _⟩ := Maps.keyOf_str Try.underlying9 hk
    rw [hy]
    simp [Lit.sameKey, strOf]
  · rintro ⟨p, hp, hs⟩
    have := WideAt.sameKey_eq hs
    exact ⟨p, hp, by rw [this]; rfl⟩
theorem nodup_strKeysR {R : Value → Option (DataW Unit × List MemPlace)} {n : Nat} {D : DataW Unit} (h : w.ownsMap Try.prog 9 R b n D) : (strKeys D).Nodup := by
  obtain ⟨es, rfl, hp⟩ := h.tidy strKeyed
  obtain ⟨es', e, hk⟩ := h.keysOf
  cases e
  show (es.map fun p => strOf p.1).Nodup
  refine List.pairwise_map.2 (hp.imp_of_mem fun {p q} hp' hq' hne e => hne ?_)
  obtain ⟨key, h1⟩ := hk p hp'
  obtain ⟨y, _, hy, _⟩ := Maps.keyOf_str Try.underlying9 h1
  obtain ⟨key', h1'⟩ := hk q hq'
  obtain ⟨y', _, hy', _⟩ := Maps.keyOf_str Try.underlying9 h1'
  rw [hy, hy'] at e ⊢
  exact congrArg _ e
theorem size_namesR {R : Value → Option (DataW Unit × List MemPlace)} {D : DataW Unit} (hr : RiseO l) (h1 : w.ownsMap Try.prog 9 R b N D) (h2 : ∀ s : ByteArray, Maps.has D (skey s) = (lookO l s).isSome) : Maps.size D = l.length := by
  have hs : (((strKeys D).mergeSort (fun x y => decide (x ≤ y))).map ofBytes) = l.map Prod.fst := by
    refine rise_unique (rise_of_sorted (nodup_strKeysR h1)) (namesO_rise hr) fun z => ?_
    have hz := h2 z
    rw [lookO_isSome] at hz
    rw [List.mem_map]
    constructor
    · rintro ⟨x, hx, rfl⟩
      have hx' : x ∈ strKeys D := (List.mergeSort_perm _ _).mem_iff.1 hx
      rw [mem_strKeysR h1] at hx'
      simpa [skey, ofBytes, hx'] using hz
    · intro hz'
      refine ⟨bl z, (List.mergeSort_perm _ _).mem_iff.2 ((mem_strKeysR h1 _).2 ?_), bl_inj (bl_ofBytes _)⟩
      rw [show (.string (bl z) : Lit) = skey z from rfl, hz]
      simpa using hz'
  have hl := congrArg List.length hs
  rw [List.length_map, List.length_map, List.length_mergeSort] at hl
  rw [← hl]
  obtain ⟨es, rfl, _⟩ := h1.entries strKeyed
  exact (List.length_map ..).symm
theorem HeldAt.len (h : HeldAt w b N l) (ty : TypeId) : (Builtin.len_ #[47] ty #[.map (some b)]).run Try.prog w = .ok (.int .i64 (l.length : Nat)) w := by
  obtain ⟨_, hr, D, hD, h3, _⟩ := h
  rw [← size_namesR hr hD h3]
  exact hD.len Try.underlying47 ty
end

theorem wpList_held_put (w : World) {ops : Array Oper} {rest : List Oper} {o : Oper} {a : Act} {Q : Exit → Act → World → Prop}
    (hg : o.guard = none) (m x v : Operand) (hop : o.op = Op.mapUpdate 47 m x v) (b N : Nat) (l : List Ob) (hm : a.eval m = .map (some b)) (hown : HeldAt w b N l) (hN : N + 1 ≤ 1000000000)
    (s d : ByteArray) (hx : a.eval x = .string s) (hv : a.eval v = .agg #[.string d]) (hs : s.size ≤ maxLen) (hd : d.size ≤ maxLen)
    (hK : ∀ w', HeldAt w' b (N + 1) (putO l (s, d)) → w.grownBy w' (some b) → wpList Try.prog ops Q rest (a.put o.dst undef) w') :
    wpList Try.prog ops Q (o :: rest) a w := by
  refine wpList_plain hg fun K' hK' => ?_
  obtain ⟨w', hrun, r1, r2⟩ := hown.put hN (s, d) hs hd
  unfold Oper.wp
  simp [execOp, hop, hm, hx, hv, hrun, Result.andThen]
  exact hK' _ _ (hK w' r1 r2)
theorem wpList_held_del (w : World) {ops : Array Oper} {rest : List Oper} {o : Oper} {a : Act} {Q : Exit → Act → World → Prop}
    (hg : o.guard = none) (m x : Operand) (hop : o.op = Op.call { callee := Callee.builtin Builtin.delete, args := #[m, x], argTypes := #[47, 9] }) (b N : Nat) (l : List Ob) (hm : a.eval m = .map (some b)) (hown : HeldAt w b N l)
    (s : ByteArray) (hx : a.eval x = .string s) (hs : s.size ≤ maxLen)
    (hK : ∀ w', HeldAt w' b N (delO l s) → w.grownBy w' (some b) → wpList Try.prog ops Q rest (a.put o.dst (.tuple #[])) w') :
    wpList Try.prog ops Q (o :: rest) a w := by
  refine wpList_plain hg fun K' hK' => ?_
  obtain ⟨w', hrun, r1, r2⟩ := hown.del s hs o.type
  unfold Oper.wp
  simp [execOp, hop, resolve, invoke, builtin, hm, hx, hrun, Result.andThen]
  exact hK' _ _ (hK w' r1 r2)
end Go.Proofs.Ytcepdigeimedoaa
