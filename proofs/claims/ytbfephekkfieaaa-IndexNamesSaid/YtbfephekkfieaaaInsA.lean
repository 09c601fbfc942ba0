/-
  Rows that are copied into one another, and one element more in a row: lists and memory.
-/
import Derived.Test.YtbfephekkfieaaaStA
import Derived.Laws.CopyRow
import Derived.Lib.AppendZerosOnto
import Derived.Lib.Overlaps
import Derived.Laws.Externs
namespace Go.Proofs.Ytbfephekkfieaaa
open Go.RowKit

/-- Goes on only where the next operation is a call of the builtin copy (with_reducible). -/
theorem sel_copy {P : Program} {ops : Array Oper} {Q : Exit → Act → World → Prop} {rest : List Oper} {d : Option Nat} {ar : Array Operand} {ts : Array TypeId} {ty : TypeId} {po : String} {af : Array Edge} {gu : Option (Nat × Bool)} {a : Act} {w : World}
    (h : wpList P ops Q (⟨d, .call ⟨.builtin .copy, ar, ts⟩, ty, po, af, gu⟩ :: rest) a w) : wpList P ops Q (⟨d, .call ⟨.builtin .copy, ar, ts⟩, ty, po, af, gu⟩ :: rest) a w := h

/-- A list with one more at a place. -/
def insAt {α : Type} (i : Nat) (x : α) (l : List α) : List α := l.take i ++ x :: l.drop i
theorem insAt_len {α : Type} {i : Nat} {x : α} {l : List α} (h : i ≤ l.length) : (insAt i x l).length = l.length + 1 := by
  simp [insAt]
  omega
theorem insAt_end {α : Type} (x : α) (l : List α) : insAt l.length x l = l ++ [x] := by simp [insAt]
theorem take_flat {α : Type} {k : Nat} {enc : α → List Value} (hk : ∀ x, (enc x).length = k) : ∀ (l : List α) (i : Nat), (l.take i).flatMap enc = (l.flatMap enc).take (i * k)
  | [], i => by simp
  | x :: l, 0 => by simp
  | x :: l, i + 1 => by
    rw [List.take_succ_cons, List.flatMap_cons, List.flatMap_cons, take_flat hk l i, Nat.add_mul, Nat.one_mul, Nat.add_comm, List.take_append, hk, List.take_of_length_le (l := enc x) (by rw [hk]; omega), show k + i * k - k = i * k by omega]
theorem drop_flat {α : Type} {k : Nat} {enc : α → List Value} (hk : ∀ x, (enc x).length = k) : ∀ (l : List α) (i : Nat), (l.drop i).flatMap enc = (l.flatMap enc).drop (i * k)
  | [], i => by simp
  | x :: l, 0 => by simp
  | x :: l, i + 1 => by
    rw [List.drop_succ_cons, List.flatMap_cons, drop_flat hk l i, Nat.add_mul, Nat.one_mul, Nat.add_comm, List.drop_append, hk, List.drop_of_length_le (l := enc x) (by rw [hk]; omega), List.nil_append, show k + i * k - k = i * k by omega]
theorem insAt_flat {α : Type} {k : Nat} {enc : α → List Value} (hk : ∀ x, (enc x).length = k) (i : Nat) (x : α) (l : List α) : (insAt i x l).flatMap enc = (l.flatMap enc).take (i * k) ++ (enc x ++ (l.flatMap enc).drop (i * k)) := by
  rw [insAt, List.flatMap_append, List.flatMap_cons, take_flat hk, drop_flat hk]

/-- A list over which another is laid. -/
def over {α : Type} (cur : List α) (o : Nat) (cs : List α) : List α := cur.take o ++ cs ++ cur.drop (o + cs.length)
theorem over_len {α : Type} {cur cs : List α} {o : Nat} (h : o + cs.length ≤ cur.length) : (over cur o cs).length = cur.length := by
  simp [over]
  omega
theorem over_shift {α : Type} {cur D e : List α} {p : Nat} (hfit : p + e.length + D.length ≤ cur.length) : (over (over cur (p + e.length) D) p e).take (p + e.length + D.length) = cur.take p ++ (e ++ D) := by
  have h1 : (over cur (p + e.length) D).take p = cur.take p := by
    rw [over, List.append_assoc, List.take_append, List.take_take, List.length_take, show min p (p + e.length) = p by omega, show p - min (p + e.length) cur.length = 0 by omega]
    simp
  have h2 : (over cur (p + e.length) D).drop (p + e.length) = D ++ cur.drop (p + e.length + D.length) := by
    have hl : (cur.take (p + e.length)).length = p + e.length := by rw [List.length_take]; omega
    rw [over, List.append_assoc, List.drop_append, hl, List.drop_of_length_le (by omega)]
    simp
  rw [over, h1, h2]
  have hl : (cur.take p ++ e ++ D).length = p + e.length + D.length := by simp; omega
  rw [← List.append_assoc, List.take_append_of_le_length (Nat.le_of_eq hl.symm), List.take_of_length_le (Nat.le_of_eq hl), List.append_assoc]
theorem over_new {α : Type} {cur D e : List α} {p : Nat} (hfit : p + e.length + D.length ≤ cur.length) : (over (over cur p e) (p + e.length) D).take (p + e.length + D.length) = cur.take p ++ (e ++ D) := by
  have hl : (cur.take p ++ e).length = p + e.length := by simp; omega
  have h1 : (over cur p e).take (p + e.length) = cur.take p ++ e := by
    rw [over, List.take_append_of_le_length (Nat.le_of_eq hl.symm), List.take_of_length_le (Nat.le_of_eq hl)]
  rw [over, h1]
  have hl2 : (cur.take p ++ e ++ D).length = p + e.length + D.length := by simp; omega
  rw [List.take_append_of_le_length (Nat.le_of_eq hl2.symm), List.take_of_length_le (Nat.le_of_eq hl2), List.append_assoc]

theorem run_copy_over {P : Program} (w : World) (dT sT ty elem : TypeId) (k g o dLen dCap : Nat) (a : Addr) (sLen sCap : Nat) (cur : Array Value) (t : TypeId) (cs : List Value)
    (hu : P.underlying dT = some (.slice elem)) (hs : (P.info? elem).map (·.size) = some k) (hg : w.heap[g]? = some (.cells cur t (0, 0))) (m : Nat) (hm : Nat.min sLen dLen = m) (hn : cs.length = m * k)
    (hsrc : ∀ j v, cs[j]? = some v → w.cell? (a.add j) = some v) (hfit : o + cs.length ≤ cur.size) (h1 : ∀ v ∈ cs, v.oneCell' = true) :
    (Builtin.copy_ #[dT, sT] ty #[.slice (some ⟨g, o, none⟩) dLen dCap, .slice (some a) sLen sCap]).run P w = .ok (goInt m) (w.setRow g (over cur.toList o cs).toArray) := by
  have hl := run_loadCells_list (P := P) w a cs hsrc
  have hst := run_storeCells_at P g o t cs 0 cur w hg (by simpa using hfit) h1
  cases hq : P.info? elem with
  | none => simp [hq] at hs
  | some i =>
    have hi : i.size = k := by simpa [hq] using hs
    simp [Builtin.copy_, run_underlying hu, Builtin.lenOf, Builtin.firstCells, sizeOf, typeInfo, hq, hi, hm, ← hn, hl, hst, over]

theorem grown_setRow (w : World) (g : Nat) (cs : Array Value) : w.grownBy (w.setRow g cs) (some g) :=
  ⟨rfl, rfl, rfl, by simp [World.setRow], fun k _ hk => setRow_other w g k cs (fun e => hk (by rw [e]))⟩
theorem wpList_copy_over {P : Program} {w : World} {ops : Array Oper} {rest : List Oper} {o : Oper} {a : Act} {Q : Exit → Act → World → Prop} (hgd : o.guard = none) (d s : Operand) (dT sT elem : TypeId)
    (ho : o.op = .call { callee := .builtin .copy, args := #[d, s], argTypes := #[dT, sT] }) (k g f f' dLen dCap : Nat) (ad : Addr) (sLen sCap : Nat) (hd : a.eval d = .slice (some ⟨g, f, none⟩) dLen dCap) (hs : a.eval s = .slice (some ad) sLen sCap)
    (cur : List Value) (t : TypeId) (cs : List Value) (hu : P.underlying dT = some (.slice elem)) (hsz : (P.info? elem).map (·.size) = some k) (hg : w.heap[g]? = some (.cells cur.toArray t (0, 0))) (m : Nat) (hf : f = f') (hm : Nat.min sLen dLen = m) (hn : cs.length = m * k)
    (hsrc : ∀ j v, cs[j]? = some v → w.cell? (ad.add j) = some v) (hfit : f' + cs.length ≤ cur.length) (h1 : ∀ v ∈ cs, v.oneCell' = true)
    (h : ∀ w', Hid (w'.heap[g]? = some (.cells (over cur f' cs).toArray t (0, 0))) → w.grownBy w' (some g) → wpList P ops Q rest (a.put o.dst (goInt m)) w') : wpList P ops Q (o :: rest) a w := by
  subst hf
  refine wpList_plain hgd fun _ hK => ?_
  unfold Oper.wp execOp
  simp only [ho, resolve, invoke, builtin, Sem.run_bind, Sem.run_pure, Result.andThen_ok, List.map_toArray, List.map_cons, List.map_nil, hd, hs, run_copy_over (P := P) w dT sT o.type elem k g f dLen dCap ad sLen sCap cur.toArray t cs hu hsz hg m hm hn hsrc (by simpa using hfit) h1]
  exact hK _ _ (h _ (setRow_heap w g _ _ t _ hg) (grown_setRow w g _))
theorem step_copy_over {P : Program} {ops : Array Oper} {o : Oper} {a : Act} {w : World} {K : Act → World → Prop} {Q : Exit → Act → World → Prop} {E : Prop} (hgd : o.guard = none) (d s : Operand) (dT sT elem : TypeId)
    (ho : o.op = .call { callee := .builtin .copy, args := #[d, s], argTypes := #[dT, sT] }) (k g f f' dLen dCap : Nat) (ad : Addr) (sLen sCap : Nat) (hd : a.eval d = .slice (some ⟨g, f, none⟩) dLen dCap) (hs : a.eval s = .slice (some ad) sLen sCap)
    (cur : List Value) (t : TypeId) (cs : List Value) (hu : P.underlying dT = some (.slice elem)) (hsz : (P.info? elem).map (·.size) = some k) (hg : w.heap[g]? = some (.cells cur.toArray t (0, 0))) (m : Nat) (hf : f = f') (hm : Nat.min sLen dLen = m) (hn : cs.length = m * k)
    (hsrc : ∀ j v, cs[j]? = some v → w.cell? (ad.add j) = some v) (hfit : f' + cs.length ≤ cur.length) (h1 : ∀ v ∈ cs, v.oneCell' = true)
    (h : ∀ w', Hid (w'.heap[g]? = some (.cells (over cur f' cs).toArray t (0, 0))) → w.grownBy w' (some g) → K (a.put o.dst (goInt m)) w') :
    if Region.wanted o (yielded ops a.tmps) = true then Oper.wp P o a w K Q else E := by
  subst hf
  have hw : Region.wanted o (yielded ops a.tmps) = true := by simp [Region.wanted, hgd]
  rw [if_pos hw]
  unfold Oper.wp execOp
  simp only [ho, resolve, invoke, builtin, Sem.run_bind, Sem.run_pure, Result.andThen_ok, List.map_toArray, List.map_cons, List.map_nil, hd, hs, run_copy_over (P := P) w dT sT o.type elem k g f dLen dCap ad sLen sCap cur.toArray t cs hu hsz hg m hm hn hsrc (by simpa using hfit) h1]
  exact h _ (setRow_heap w g _ _ t _ hg) (grown_setRow w g _)

theorem grown_trans {w w' w'' : World} {row : Option Nat} (h : w.grownBy w' row) (h' : w'.grownBy w'' row) : w.grownBy w'' row :=
  ⟨h'.os.trans h.os, h'.tape.trans h.tape, h'.output.trans h.output, Nat.le_trans h.size h'.size, fun k hk hne => (h'.block k (Nat.lt_of_lt_of_le hk h.size) hne).trans (h.block k hk hne)⟩
theorem grown_drew (w : World) (row : Option Nat) : w.grownBy w.drew row := ⟨rfl, rfl, rfl, Nat.le_refl _, fun _ _ _ => rfl⟩

theorem grown_fresh {w w' w'' : World} {row : Option Nat} {g : Nat} (h : w.grownBy w' row) (hg : w.heap.size ≤ g) (h' : w'.grownBy w'' (some g)) : w.grownBy w'' row :=
  ⟨h'.os.trans h.os, h'.tape.trans h.tape, h'.output.trans h.output, Nat.le_trans h.size h'.size, fun k hk hne => (h'.block k (Nat.lt_of_lt_of_le hk h.size) (fun e => by injection e with e; omega)).trans (h.block k hk hne)⟩
theorem grown_alloc (w : World) (o : Obj) (row : Option Nat) : w.grownBy (w.drew.alloc o) row :=
  ⟨rfl, rfl, rfl, by simp, fun k hk _ => by
    show (w.heap.push o)[k]? = _
    rw [Array.getElem?_push, if_neg (by omega)]⟩

section
variable {α : Type} (E : Elem α)
/-- append(s[:i], make(S, n+1-i)...) where there is no room: a new row. -/
theorem make_grow (w : World) (tn : TypeId) (kn : IntKind) (htn : Try.prog.underlying tn = some (.int kn)) (g0 n cap i : Nat) (cur : Array Value) (l : List α) (hh : w.heap[g0]? = some (.cells cur E.T (0, 0))) (htk : cur.toList.take (n * E.k) = l.flatMap E.enc)
    (hln : l.length = n) (hi : i < n) (hnc : n ≤ cap) (hroom : cap < n + 1) (hbig : n ≤ 1000000) :
    ∃ G ROW, n + 1 ≤ G ∧ G ≤ maxLen ∧ ROW.size = G * E.k ∧ ROW.toList.take (i * E.k) = (l.flatMap E.enc).take (i * E.k) ∧
      ∀ (ty : TypeId) (z : Int), z = ((n + 1 - i : Nat) : Int) → (Builtin.append_ #[E.S, tn] ty #[.slice (some ⟨g0, 0, none⟩) i cap, .int .i64 z]).run Try.prog w = .ok (.slice (some ⟨w.heap.size, 0, none⟩) (n + 1) G) (w.drew.alloc (.cells ROW E.T)) := by
  obtain ⟨i0, hi0, hz0, hzs, hzb⟩ := infoOf E.info
  have hfl : (l.flatMap E.enc).length = n * E.k := by rw [flat_len E.len, hln]
  have htl : ((l.flatMap E.enc).take (i * E.k)).length = i * E.k := by
    rw [List.length_take, hfl]
    exact Nat.min_eq_left (Nat.mul_le_mul_right _ (by omega))
  have hik : i + (n + 1 - i) = n + 1 := by omega
  have hbytes : (n + 1) * E.bytes ≤ 140737488355328 := Nat.le_trans (Nat.mul_le_mul_left _ E.small) (by omega)
  have hold : (Builtin.firstCells i0.size i (.slice (some ⟨g0, 0, none⟩) i cap)).run Try.prog w.drew = .ok ((l.flatMap E.enc).take (i * E.k)).toArray w.drew := by
    rw [hzs]
    refine run_firstCells_some w.drew E.k i ⟨g0, 0, none⟩ i cap _ htl fun j v hj => ?_
    rw [Addr.add_lit, Nat.zero_add]
    show w.cell? ⟨g0, j, none⟩ = some v
    rw [cell_of_row w g0 _ cur _ _ hh]
    rw [List.getElem?_take] at hj
    split at hj
    · rw [← htk, List.getElem?_take] at hj
      split at hj
      · simpa using hj
      · cases hj
    · cases hj
  refine ⟨grownCap w (n + 1) cap E.T, ((l.flatMap E.enc).take (i * E.k)).toArray ++ Builtin.zeroCells E.z.cells (n + 1 - i) ++ Builtin.zeroCells E.z.cells (grownCap w (n + 1) cap E.T - (n + 1)), grownCap_ge _ _ _ _, grownCap_le_maxLen _ _ _ _ (by simp only [maxLen]; omega), ?_, ?_, ?_⟩
  · have hge := grownCap_ge w (n + 1) cap E.T
    generalize grownCap w (n + 1) cap E.T = G at hge ⊢
    rw [Array.size_append, Array.size_append, size_zeroCells, size_zeroCells, E.zc, List.size_toArray, htl, ← Nat.add_mul, ← Nat.add_mul, show i + (n + 1 - i) + (G - (n + 1)) = G by omega]
  · rw [Array.toList_append, Array.toList_append, List.append_assoc, List.take_append_of_le_length (Nat.le_of_eq htl.symm), List.take_of_length_le (Nat.le_of_eq htl)]
  · rintro ty z rfl
    have h := Lib.run_append_grow_zeros w E.S tn ty E.T i0 _ .i64 kn E.und htn hi0 hz0 (some ⟨g0, 0, none⟩) i cap _ hold (n + 1 - i) (by omega) (by rw [hzs]; exact E.pos) (by omega) (by omega) (by rw [hzb]; exact Nat.le_trans (Nat.mul_le_mul (by omega) (Nat.le_refl _)) (Nat.le_trans hbytes (by omega))) (by rw [hzb, hik]; exact growslice_fits hroom hbytes)
    rw [hik] at h
    exact h
end

section
variable {α : Type} (E : Elem α) {w W : World} {base g0 cap n i : Nat} {l : List α} {x : α} {cur : Array Value}
theorem ins_own {fin : List Value} (hW : W.heap[g0]? = some (.cells fin.toArray E.T (0, 0))) (hn : l.length = n) (hi : i ≤ n) (hcap : n + 1 ≤ cap) (hmax : cap ≤ maxLen) (hb : base ≤ g0) (hf : fin.length = cap * E.k)
    (ht : fin.take ((n + 1) * E.k) = (insAt i x l).flatMap E.enc) : E.Own W base (.slice (some ⟨g0, 0, none⟩) (n + 1) cap) (insAt i x l) := by
  have hlen : (insAt i x l).length = n + 1 := by rw [insAt_len (by omega), hn]
  refine ⟨by rw [flat_len E.len], .inr ⟨g0, cap, fin.toArray, by rw [hlen], hb, hW, by omega, hmax, by simpa using hf, ?_⟩⟩
  rw [hlen]
  simpa using ht
/-- The cells of the elements from a place on. -/
def tailC {α : Type} (E : Elem α) (i : Nat) (l : List α) : List Value := (l.flatMap E.enc).drop (i * E.k)
theorem tailC_len (hn : l.length = n) : (tailC E i l).length = (n - i) * E.k := by rw [tailC, List.length_drop, flat_len E.len, hn, Nat.sub_mul]
theorem tailC_one : ∀ u ∈ tailC E i l, u.oneCell' = true := fun u hu => E.oneRow l u (List.mem_of_mem_drop hu)
theorem tailC_at {j : Nat} {u : Value} (h : (tailC E i l)[j]? = some u) : (l.flatMap E.enc)[i * E.k + j]? = some u := by rwa [tailC, List.getElem?_drop] at h
theorem fit3 {k : Nat} (hi : i ≤ n) (hcap : n + 1 ≤ cap) : i * k + k + (n - i) * k ≤ cap * k := by
  have h1 : i * k + k + (n - i) * k = (i + 1 + (n - i)) * k := by rw [Nat.add_mul, Nat.add_mul, Nat.one_mul]
  rw [h1]
  exact Nat.mul_le_mul_right k (by omega)
theorem sum3 {k : Nat} (hi : i ≤ n) : i * k + k + (n - i) * k = (n + 1) * k := by
  rw [show i * k + k + (n - i) * k = (i + 1 + (n - i)) * k by rw [Nat.add_mul, Nat.add_mul, Nat.one_mul], show i + 1 + (n - i) = n + 1 by omega]
theorem take_le {α : Type} {a b : List α} {m p : Nat} (h : a.take m = b) (hp : p ≤ m) : a.take p = b.take p := by rw [← h, List.take_take, Nat.min_eq_left hp]
theorem ins_shift (hn : l.length = n) (hi : i ≤ n) (hcap : n + 1 ≤ cap) (hs : cur.size = cap * E.k) (ht : cur.toList.take (n * E.k) = l.flatMap E.enc) :
    (over (over cur.toList (i * E.k + E.k) (tailC E i l)) (i * E.k) (E.enc x)).length = cap * E.k ∧ (over (over cur.toList (i * E.k + E.k) (tailC E i l)) (i * E.k) (E.enc x)).take ((n + 1) * E.k) = (insAt i x l).flatMap E.enc := by
  have hc : cur.toList.length = cap * E.k := by simpa using hs
  have hf := fit3 (k := E.k) hi hcap
  have ht' := tailC_len E (i := i) hn
  constructor
  · rw [over_len, over_len] <;> (try rw [over_len]) <;> (try rw [E.len]) <;> (try rw [ht']) <;> omega
  · have h1 := over_shift (cur := cur.toList) (D := tailC E i l) (e := E.enc x) (p := i * E.k) (by rw [E.len, ht', hc]; exact hf)
    rw [E.len, ht', sum3 hi] at h1
    rw [h1, insAt_flat E.len, take_le ht (Nat.mul_le_mul_right _ hi)]
    rfl
theorem ins_new (hn : l.length = n) (hi : i ≤ n) (hcap : n + 1 ≤ cap) (hs : cur.size = cap * E.k) (ht : cur.toList.take (i * E.k) = (l.flatMap E.enc).take (i * E.k)) :
    (over (over cur.toList (i * E.k) (E.enc x)) (i * E.k + E.k) (tailC E i l)).length = cap * E.k ∧ (over (over cur.toList (i * E.k) (E.enc x)) (i * E.k + E.k) (tailC E i l)).take ((n + 1) * E.k) = (insAt i x l).flatMap E.enc := by
  have hc : cur.toList.length = cap * E.k := by simpa using hs
  have hf := fit3 (k := E.k) hi hcap
  have ht' := tailC_len E (i := i) hn
  constructor
  · rw [over_len, over_len] <;> (try rw [over_len]) <;> (try rw [E.len]) <;> (try rw [ht']) <;> omega
  · have h1 := over_new (cur := cur.toList) (D := tailC E i l) (e := E.enc x) (p := i * E.k) (by rw [E.len, ht', hc]; exact hf)
    rw [E.len, ht', sum3 hi] at h1
    rw [h1, insAt_flat E.len, ht]
    rfl
end
end Go.Proofs.Ytbfephekkfieaaa
