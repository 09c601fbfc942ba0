/-
  A map from strings to strings in memory that reads as objects by rising names.
-/
import Derived.Test.YtfkonpmnclknaaaStoL
import Derived.Test.YtfkonpmnclknaaaCntA
import Derived.Test.YtfkonpmnclknaaaLayE
import Derived.Shelf.SlMaps.Clone
import Derived.Maps.StringElems
import Derived.Maps.Ext
import Derived.Maps.RangeWalk
import Derived.ChangeMaps5
namespace Go.Proofs.Ytfkonpmnclknaaa
open Go.RowKit Go.Maps Go.Sort Go.Shelf Go.ChangeMaps

abbrev sd (s : ByteArray) : DataW Unit := .lit (.string (bl s))
theorem zeroStr (w : World) : (zeroValue 9).run Try.prog w = .ok (.string ⟨#[]⟩) w := by kernel_rfl

/-- Block b is a map, of N entries or fewer, that reads as the objects l, which rise. -/
def MapAt (w : World) (b N : Nat) (l : List Ob) : Prop :=
  N ≤ 1000000000 ∧ RiseO l ∧ (∀ p ∈ l, p.2.size ≤ maxLen) ∧ ∃ D : DataW Unit, w.ownsMap Try.prog 9 (plainElem Try.prog 9) b N D ∧
    (∀ s : ByteArray, Maps.has D (skey s) = (lookO l s).isSome) ∧ ∀ s : ByteArray, D.atKey (skey s) (sd ⟨#[]⟩) = sd ((lookO l s).getD ⟨#[]⟩)

section
variable {w w' : World} {b N : Nat} {l : List Ob}
theorem MapAt.made (w : World) (N : Nat) (hN : N ≤ 1000000000) : MapAt (w.alloc (.map #[] 0)) w.heap.size N [] :=
  ⟨hN, List.Pairwise.nil, by simp, .map [], (World.ownsMap_made w _ _ _).mono (Nat.zero_le _), fun s => by simp [Maps.has, lookO], fun s => by simp [DataW.atKey, lookO]⟩
theorem MapAt.lt (h : MapAt w b N l) : b < w.heap.size := by obtain ⟨_, _, _, _, h, _⟩ := h; exact h.lt
theorem MapAt.rise (h : MapAt w b N l) : RiseO l := h.2.1
theorem MapAt.more (h : MapAt w b N l) {M : Nat} (hM : N ≤ M) (hM9 : M ≤ 1000000000) : MapAt w b M l := by
  obtain ⟨_, h0, h1, D, h2, h3⟩ := h
  exact ⟨hM9, h0, h1, D, h2.mono hM, h3⟩
theorem MapAt.block (h : MapAt w b N l) (hb : w'.heap[b]? = w.heap[b]?) : MapAt w' b N l := by
  obtain ⟨h0, h1, h9, D, ⟨es, clock, h2, h3⟩, h4⟩ := h
  exact ⟨h0, h1, h9, D, ⟨es, clock, hb.trans h2, h3⟩, h4⟩
theorem MapAt.kept {row : Option Nat} (h : MapAt w b N l) (hg : w.grownBy w' row) (hne : some b ≠ row) : MapAt w' b N l := h.block (hg.block b h.lt hne)
theorem MapAt.alloc (h : MapAt w b N l) (o : Obj) : MapAt (w.alloc o) b N l := h.block (Go.Deep.blk_alloc_lt _ _ _ h.lt)
theorem MapAt.drew (h : MapAt w b N l) : MapAt w.drew b N l := h
theorem MapAt.drewN (h : MapAt w b N l) (q : Nat) : MapAt (w.drewN q) b N l := h
theorem MapAt.below {B : Nat} (h : MapAt w b N l) (hB : b < B) (hb : Below B w w') : MapAt w' b N l := h.block (hb.block b hB)
theorem MapAt.setOther (h : MapAt w b N l) {a : Addr} (hne : b ≠ a.block) (u : Value) : MapAt (w.setCell a u) b N l := h.block (Go.Deep.blk_setCell_other _ _ _ _ hne)

/-- Another map of the same datum. -/
theorem MapAt.of (h : MapAt w b N l) {b' : Nat} (hD : ∀ D : DataW Unit, w.ownsMap Try.prog 9 (plainElem Try.prog 9) b N D → w'.ownsMap Try.prog 9 (plainElem Try.prog 9) b' N D) : MapAt w' b' N l := by
  obtain ⟨h0, h1, h9, D, h2, h4⟩ := h
  exact ⟨h0, h1, h9, D, hD D h2, h4⟩

/-- m[k]. -/
theorem MapAt.look (h : MapAt w b N l) (s : ByteArray) (hs : s.size ≤ maxLen) (q : Nat) :
    (Instr.lookup 66 (.map (some b)) (.string s) false).run Try.prog (w.drewN q) = .ok (.string ((lookO l s).getD ⟨#[]⟩)) (w.drewN q) := by
  obtain ⟨_, _, _, D, h2, h3, h4⟩ := h
  obtain ⟨v, ps, hrun, hv⟩ := World.ownsMap.lookup (w := w.drewN q) h2 strKeyed Try.underlying66 (z := .string ⟨#[]⟩) (zeroStr _) (zd := sd ⟨#[]⟩) (zp := []) (plainElem_string Try.underlying9 (by decide)) (Go.WideMaps.keyOf_string_mk Try.underlying9 hs)
  obtain ⟨x, rfl, hx, _⟩ := plainElem_string_inv Try.underlying9 hv
  have e := h4 s
  simp only [Prod.mk.injEq] at hx
  rw [hx.1] at e
  have : x = (lookO l s).getD ⟨#[]⟩ := bl_inj (by simpa [sd] using e)
  rw [hrun, this]
/-- v, ok := m[k]. -/
theorem MapAt.look_ok (h : MapAt w b N l) (s : ByteArray) (hs : s.size ≤ maxLen) (q : Nat) :
    (Instr.lookup 66 (.map (some b)) (.string s) true).run Try.prog (w.drewN q) = .ok (.tuple #[.string ((lookO l s).getD ⟨#[]⟩), .bool (lookO l s).isSome]) (w.drewN q) := by
  obtain ⟨_, _, _, D, h2, h3, h4⟩ := h
  obtain ⟨v, ps, hrun, hv⟩ := World.ownsMap.look_ok (w := w.drewN q) h2 strKeyed Try.underlying66 (z := .string ⟨#[]⟩) (zeroStr _) (zd := sd ⟨#[]⟩) (zp := []) (plainElem_string Try.underlying9 (by decide)) (Go.WideMaps.keyOf_string_mk Try.underlying9 hs)
  obtain ⟨x, rfl, hx, _⟩ := plainElem_string_inv Try.underlying9 hv
  have e := h4 s
  simp only [Prod.mk.injEq] at hx
  rw [hx.1] at e
  have : x = (lookO l s).getD ⟨#[]⟩ := bl_inj (by simpa [sd] using e)
  rw [hrun, this, h3]

theorem has_map (h : MapAt w b N l) : ∃ D : DataW Unit, w.ownsMap Try.prog 9 (plainElem Try.prog 9) b N D ∧ IsMap D ∧ (∀ s : ByteArray, Maps.has D (skey s) = (lookO l s).isSome) ∧ ∀ s : ByteArray, D.atKey (skey s) (sd ⟨#[]⟩) = sd ((lookO l s).getD ⟨#[]⟩) := by
  obtain ⟨_, _, _, D, h2, h3, h4⟩ := h
  exact ⟨D, h2, (h2.tidy strKeyed).isMap, h3, h4⟩
/-- m[k] = v. -/
theorem MapAt.put (h : MapAt w b N l) (hN : N + 1 ≤ 1000000000) (o : Ob) (h1 : o.1.size ≤ maxLen) (h2 : o.2.size ≤ maxLen) :
    ∃ w', (Instr.mapUpdate 66 (.map (some b)) (.string o.1) (.string o.2)).run Try.prog w = .ok () w' ∧ MapAt w' b (N + 1) (putO l o) ∧ w.grownBy w' (some b) := by
  have hr := h.rise
  have h9 := h.2.2.1
  obtain ⟨D, hD, hm, h3, h4⟩ := has_map h
  obtain ⟨w', hrun, hD', hg⟩ := hD.update strKeyed Try.underlying66 (by unfold maxLen; omega) (Go.WideMaps.keyOf_string_mk Try.underlying9 h1) (plainElem_string Try.underlying9 h2)
  refine ⟨w', hrun, ⟨hN, riseO_put hr o, fun p hp => ?_, _, hD', fun t => ?_, fun t => ?_⟩, hg⟩
  · rcases putO_mem.1 hp with rfl | ⟨hp, _⟩
    · exact h2
    · exact h9 p hp
  · rw [lookO_put]
    by_cases e : o.1 = t
    · subst e
      rw [if_pos rfl]
      exact has_put_same hm (skey_lit _) _
    · rw [if_neg e, ← h3]
      exact has_put_other (skey_ne (fun e' => e e'.symm)) _
  · rw [lookO_put]
    by_cases e : o.1 = t
    · subst e
      rw [if_pos rfl]
      exact atKey_put_same hm (skey_lit _) _ _
    · rw [if_neg e, ← h4]
      exact atKey_put_other (skey_ne (fun e' => e e'.symm)) _ _
/-- delete(m, k). -/
theorem MapAt.del (h : MapAt w b N l) (s : ByteArray) (h1 : s.size ≤ maxLen) (ty : TypeId) :
    ∃ w', (Builtin.delete_ #[66, 9] ty #[.map (some b), .string s]).run Try.prog w = .ok (.tuple #[]) w' ∧ MapAt w' b N (delO l s) ∧ w.grownBy w' (some b) := by
  have hr := h.rise
  have h0 := h.1
  have h9 := h.2.2.1
  obtain ⟨D, hD, hm, h3, h4⟩ := has_map h
  obtain ⟨w', hrun, hD', hg⟩ := hD.drop strKeyed Try.underlying66 (Go.WideMaps.keyOf_string_mk Try.underlying9 h1) ty
  refine ⟨w', hrun, ⟨h0, riseO_del hr s, fun p hp => h9 p (delO_mem.1 hp).1, _, hD', fun t => ?_, fun t => ?_⟩, hg.grown⟩
  · rw [lookO_del]
    by_cases e : s = t
    · subst e
      rw [if_pos rfl]
      exact has_del_same
    · rw [if_neg e, ← h3]
      exact has_del_other (skey_ne (fun e' => e e'.symm))
  · rw [lookO_del]
    by_cases e : s = t
    · subst e
      rw [if_pos rfl]
      exact atKey_del_same _
    · rw [if_neg e, ← h4]
      exact atKey_del_other (skey_ne (fun e' => e e'.symm)) _
/-- A copy. -/
theorem MapAt.copy (h : MapAt w b N l) {b' : Nat} {w' : World} (hc : w'.heap[b']? = w.heap[b]?) : MapAt w' b' N l := by
  obtain ⟨h0, h1, h9, D, ⟨es, clock, h2, h3⟩, h4⟩ := h
  exact ⟨h0, h1, h9, D, ⟨es, clock, hc.trans h2, h3⟩, h4⟩
theorem MapAt.heap (h : MapAt w b N l) : ∃ es clock, w.heap[b]? = some (.map es clock) := by
  obtain ⟨_, _, _, D, ⟨es, clock, h2, _⟩, _⟩ := h
  exact ⟨es, clock, h2⟩
end

theorem wpList_obs_put (w : World) {ops : Array Oper} {rest : List Oper} {o : Oper} {a : Act} {Q : Exit → Act → World → Prop}
    (hg : o.guard = none) (m x v : Operand) (hop : o.op = Op.mapUpdate 66 m x v) (b N : Nat) (l : List Ob) (hm : a.eval m = .map (some b)) (hown : MapAt w b N l) (hN : N + 1 ≤ 1000000000)
    (s d : ByteArray) (hx : a.eval x = .string s) (hv : a.eval v = .string d) (hs : s.size ≤ maxLen) (hd : d.size ≤ maxLen)
    (hK : ∀ w', MapAt w' b (N + 1) (putO l (s, d)) → w.grownBy w' (some b) → wpList Try.prog ops Q rest (a.put o.dst undef) w') :
    wpList Try.prog ops Q (o :: rest) a w := by
  refine wpList_plain hg fun K' hK' => ?_
  obtain ⟨w', hrun, r1, r2⟩ := hown.put hN (s, d) hs hd
  unfold Oper.wp
  simp [execOp, hop, hm, hx, hv, hrun, Result.andThen]
  exact hK' _ _ (hK w' r1 r2)

theorem wpList_obs_del (w : World) {ops : Array Oper} {rest : List Oper} {o : Oper} {a : Act} {Q : Exit → Act → World → Prop}
    (hg : o.guard = none) (m x : Operand) (hop : o.op = Op.call { callee := Callee.builtin Builtin.delete, args := #[m, x], argTypes := #[66, 9] }) (b N : Nat) (l : List Ob) (hm : a.eval m = .map (some b)) (hown : MapAt w b N l)
    (s : ByteArray) (hx : a.eval x = .string s) (hs : s.size ≤ maxLen)
    (hK : ∀ w', MapAt w' b N (delO l s) → w.grownBy w' (some b) → wpList Try.prog ops Q rest (a.put o.dst (.tuple #[])) w') :
    wpList Try.prog ops Q (o :: rest) a w := by
  refine wpList_plain hg fun K' hK' => ?_
  obtain ⟨w', hrun, r1, r2⟩ := hown.del s hs o.type
  unfold Oper.wp
  simp [execOp, hop, resolve, invoke, builtin, hm, hx, hrun, Result.andThen]
  exact hK' _ _ (hK w' r1 r2)

/-- clear(m). -/
theorem MapAt.clr {w : World} {b N : Nat} {l : List Ob} (h : MapAt w b N l) (ty : TypeId) :
    ∃ w', (Builtin.clear_ #[66] ty #[.map (some b)]).run Try.prog w = .ok (.tuple #[]) w' ∧ MapAt w' b N [] ∧ w.grownBy w' (some b) := by
  have h0 := h.1
  obtain ⟨es, clock, hb⟩ := h.heap
  refine ⟨setBlock w b (.map #[] clock), ?_, ⟨h0, List.Pairwise.nil, by simp, .map [], ⟨#[], clock, heap_setBlock_same hb _, ⟨by simp, MapKept.stamped_empty clock, by simp⟩, by simp, rfl⟩, fun s => by simp [Maps.has, lookO], fun s => by simp [DataW.atKey, lookO]⟩, ?_⟩
  · simp [Builtin.clear_, run_underlying Try.underlying66, MapKept.run_getObj_map hb, MapKept.run_setObj_map _ hb, Result.andThen, setBlock]
  · exact ⟨rfl, rfl, rfl, by simp [setBlock], fun i _ hi => heap_setBlock_other hb _ (fun e => hi (by rw [e]))⟩
theorem wpList_obs_clear (w : World) {ops : Array Oper} {rest : List Oper} {o : Oper} {a : Act} {Q : Exit → Act → World → Prop}
    (hg : o.guard = none) (m : Operand) (hop : o.op = Op.call { callee := Callee.builtin Builtin.clear, args := #[m], argTypes := #[66] }) (b N : Nat) (l : List Ob) (hm : a.eval m = .map (some b)) (hown : MapAt w b N l)
    (hK : ∀ w', MapAt w' b N [] → w.grownBy w' (some b) → wpList Try.prog ops Q rest (a.put o.dst (.tuple #[])) w') :
    wpList Try.prog ops Q (o :: rest) a w := by
  refine wpList_plain hg fun K' hK' => ?_
  obtain ⟨w', hrun, r1, r2⟩ := hown.clr o.type
  unfold Oper.wp
  simp [execOp, hop, resolve, invoke, builtin, hm, hrun, Result.andThen]
  exact hK' _ _ (hK w' r1 r2)

theorem mem_strKeysS {w : World} {b n : Nat} {D : DataW Unit} (h : w.ownsMap Try.prog 9 (plainElem Try.prog 9) b n D) (x : List UInt8) : x ∈ strKeys D ↔ Maps.has D (.string x) = true := by
  obtain ⟨es, rfl, hk⟩ := h.keysOf
  rw [Maps.has_eq, List.any_eq_true]
  show x ∈ es.map (fun p => strOf p.1) ↔ _
  rw [List.mem_map]
  constructor
  · rintro ⟨p, hp, rfl⟩
    refine ⟨p, hp, ?_⟩
    obtain ⟨key, hk⟩ := hk p hp
    obtain ⟨y, _, hy, _⟩ := Maps.keyOf_str Try.underlying9 hk
    rw [hy]
    simp [Lit.sameKey, strOf]
  · rintro ⟨p, hp, hs⟩
    have := WideAt.sameKey_eq hs
    exact ⟨p, hp, by rw [this]; rfl⟩
theorem nodup_strKeysS {w : World} {b n : Nat} {D : DataW Unit} (h : w.ownsMap Try.prog 9 (plainElem Try.prog 9) b n D) : (strKeys D).Nodup := by
  obtain ⟨es, rfl, hp⟩ := h.tidy strKeyed
  obtain ⟨es', e, hk⟩ := h.keysOf
  cases e
  show (es.map fun p => strOf p.1).Nodup
  refine List.pairwise_map.2 (hp.imp_of_mem fun {p q} hp' hq' hne e => hne ?_)
  obtain ⟨key, h1⟩ := hk p hp'
  obtain ⟨y, _, hy, _⟩ := Maps.keyOf_str Try.underlying9 h1
  obtain ⟨key', h1'⟩ := hk q hq'
  obtain ⟨y', _, hy', _⟩ := Maps.keyOf_str Try.underlying9 h1'
  rw [hy, hy'] at e ⊢
  exact congrArg _ e
/-- Each key's weight is a length that may be. -/
theorem MapAt.names {w : World} {b N : Nat} {l : List Ob} (h : MapAt w b N l) : ∀ p ∈ l, p.1.size ≤ maxLen := fun p hp => by
  have h1 := mem_lookO h.rise hp
  obtain ⟨_, _, _, D, hD, h3, _⟩ := h
  have h2 := h3 p.1
  rw [h1] at h2
  have h5 := (mem_strKeysS hD (bl p.1)).2 h2
  obtain ⟨es, rfl, hk⟩ := hD.keysOf
  obtain ⟨q, hq, e⟩ := List.mem_map.1 (show bl p.1 ∈ es.map (fun p => strOf p.1) from h5)
  obtain ⟨key, hkey⟩ := hk q hq
  obtain ⟨y, e1, hy, hz⟩ := Maps.keyOf_str Try.underlying9 hkey
  rw [hy] at e
  have e2 : y = bl p.1 := by simpa [strOf] using e
  rw [e2] at hz
  show p.1.data.size ≤ maxLen
  rw [← Array.length_toList]
  exact hz

theorem maps_KeysS (mb : Option Nat) (w : World) :
    Calls Try.prog 93 #[.map mb] w fun e w' => e = .returned (.func (.func 99) #[] #[.pointer (some ⟨w.heap.size, 0, none⟩)]) ∧ w' = w.alloc (.cells #[.map mb] 66) :=
  callsIn_wide.1 (AnyZ.keys_in Try.keysSS Fence.wide 5 trivial rfl mb w)

set_option maxHeartbeats 1000000 in
theorem sorted_rawS (b nn : Nat) (D0 : DataW Unit) (w : World) (hown : w.ownsMap Try.prog 9 (plainElem Try.prog 9) b nn D0) (hmax : Maps.size D0 ≤ maxLen) (hbytes : Maps.size D0 * 16 ≤ 140737488355328) :
    CallsIn Fence.wide 5 Try.prog 92 #[.func (.func 99) #[] #[.pointer (some ⟨w.heap.size, 0, none⟩)]] (w.alloc (.cells #[.map (some b)] 66)) fun e w' => ∃ (v : Value) (ss : List (List UInt8)), e = .returned v ∧ ss.Perm (strKeys D0) ∧
      w'.ownsRow (w.alloc (.cells #[.map (some b)] 66)).heap.size 9 1 v ss.length ((ss.mergeSort (fun x y => decide (x ≤ y))).map encStr) ∧ (v = .slice none 0 0 ↔ ss = []) ∧ Below (w.alloc (.cells #[.map (some b)] 66)).heap.size (w.alloc (.cells #[.map (some b)] 66)) w' := by
  have hbl := hown.lt
  have hseq : SeqGives Fence.wide 2 Try.prog 99 #[.pointer (some ⟨w.heap.size, 0, none⟩)] encStr (fun ss => ss.Perm (strKeys D0)) (Maps.size D0) (w.alloc (.cells #[.map (some b)] 66)) :=
    AnyZ.keys_gives (ρ := Try.keysSS_ren) { Try.keysSS with } Fence.wide _ trivial rfl (by omega) w.heap.size b nn D0 _ (by simp) (by simp) (by
      obtain ⟨es, clock, hb, Ft, hs, hD⟩ := hown
      exact ⟨es, clock, (Below.heap_alloc _ _ b hbl).trans hb, Ft, hs, hD⟩)
  exact AnyZ.sorted_in Try.sortedS Fence.wide 5 trivial trivial trivial trivial rfl (by omega) (sorts_in _) (enters_of Try.func98 (by kernel_rfl) rfl) 99 #[.pointer (some ⟨w.heap.size, 0, none⟩)] trivial (enters_of Try.func99 (by kernel_rfl) rfl) _ _ hmax hbytes _ hseq

/-- slices.Sorted(maps.Keys(m)) behind maps.Keys: the names. -/
theorem sorted_names (b N : Nat) (l : List Ob) (w : World) (h : MapAt w b N l) :
    Calls Try.prog 92 #[.func (.func 99) #[] #[.pointer (some ⟨w.heap.size, 0, none⟩)]] (w.alloc (.cells #[.map (some b)] 66)) fun e w' =>
      ∃ v, e = .returned v ∧ Owns 1 strCell 9 w' (w.heap.size + 1) v (l.map Prod.fst) ∧ Below (w.heap.size + 1) (w.alloc (.cells #[.map (some b)] 66)) w' := by
  have hr := h.rise
  obtain ⟨h0, _, _, D, h1, h2, h3⟩ := h
  have hsz := h1.size_le
  refine (callsIn_wide.1 (sorted_rawS b _ D w h1 (by unfold maxLen; omega) (by omega))).mono ?_
  rintro e w' ⟨v, ss, rfl, hp, hrow, _, hb⟩
  have hs : ((ss.mergeSort (fun x y => decide (x ≤ y))).map ofBytes) = l.map Prod.fst := by
    refine rise_unique (rise_of_sorted (hp.nodup_iff.2 (nodup_strKeysS h1))) (namesO_rise hr) fun z => ?_
    have hz := h2 z
    rw [lookO_isSome] at hz
    rw [List.mem_map]
    constructor
    · rintro ⟨x, hx, rfl⟩
      have hx' : x ∈ strKeys D := hp.mem_iff.1 ((List.mergeSort_perm ss _).mem_iff.1 hx)
      rw [mem_strKeysS h1] at hx'
      simpa [skey, ofBytes, hx'] using hz
    · intro hz'
      refine ⟨bl z, (List.mergeSort_perm ss _).mem_iff.2 (hp.mem_iff.2 ((mem_strKeysS h1 _).2 ?_)), bl_inj (bl_ofBytes _)⟩
      rw [show (.string (bl z) : Lit) = skey z from rfl, hz]
      simpa using hz'
  have hsz2 : (w.alloc (.cells #[.map (some b)] 66)).heap.size = w.heap.size + 1 := by simp
  rw [hsz2] at hrow hb
  refine ⟨v, rfl, ?_, hb⟩
  unfold Owns
  have hlen : (l.map Prod.fst).length = ss.length := by rw [← hs, List.length_map, List.length_mergeSort]
  have hfl : (l.map Prod.fst).flatMap strCell = (ss.mergeSort (fun x y => decide (x ≤ y))).map encStr := by
    rw [← hs]
    generalize ss.mergeSort (fun x y => decide (x ≤ y)) = m
    induction m with
    | nil => rfl
    | cons x m ih => rw [List.map_cons, List.flatMap_cons, ih]; rfl
  rw [hlen, hfl]
  exact hrow

/-- maps.Clone. -/
theorem maps_CloneS (b N : Nat) (l : List Ob) (w : World) (h : MapAt w b N l) :
    Calls Try.prog 61 #[.map (some b)] w fun e w' => e = .returned (.map (some w.heap.size)) ∧ MapAt w' w.heap.size N l ∧ w'.heap.size = w.heap.size + 1 ∧ Below w.heap.size w w' := by
  obtain ⟨es, clock, hb⟩ := h.heap
  refine (show Calls Try.prog 61 _ w _ from AnyW.maps_Clone Try.cloneSS b es clock w hb).mono ?_
  rintro e w' ⟨he, rfl⟩
  exact ⟨he, h.copy ((heap_alloc_new w _).trans hb.symm), by simp, (Below.refl _ w).alloc (Nat.le_refl _) _⟩
end Go.Proofs.Ytfkonpmnclknaaa
