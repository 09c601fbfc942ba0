/-
  Objects by rising names (what a store has): taken away, put, found; what they weigh.
-/
import Derived.Test.YtfkonpmnclknaaaStr
namespace Go.Proofs.Ytfkonpmnclknaaa

abbrev Ob := ByteArray × ByteArray
def lookO : List Ob → ByteArray → Option ByteArray
  | [], _ => none
  | p :: l, s => if p.1 = s then some p.2 else lookO l s
def delO (l : List Ob) (s : ByteArray) : List Ob := l.filter fun p => !decide (p.1 = s)
/-- Ahead of the first whose name is not less. -/
def insO : List Ob → Ob → List Ob
  | [], o => [o]
  | p :: l, o => if sLt p.1 o.1 = true then p :: insO l o else o :: p :: l
def putO (l : List Ob) (o : Ob) : List Ob := insO (delO l o.1) o
abbrev RiseO (l : List Ob) : Prop := l.Pairwise fun a b => sLt a.1 b.1 = true
theorem riseO_cons {p : Ob} {l : List Ob} : RiseO (p :: l) ↔ (∀ q ∈ l, sLt p.1 q.1 = true) ∧ RiseO l := List.pairwise_cons

theorem insO_mem (o p : Ob) : ∀ l : List Ob, p ∈ insO l o ↔ p = o ∨ p ∈ l
  | [] => by simp [insO]
  | q :: l => by
    unfold insO
    split
    · rw [List.mem_cons, insO_mem o p l, List.mem_cons]
      constructor
      · rintro (h | h | h)
        · exact .inr (.inl h)
        · exact .inl h
        · exact .inr (.inr h)
      · rintro (h | h | h)
        · exact .inr (.inl h)
        · exact .inl h
        · exact .inr (.inr h)
    · rw [List.mem_cons, List.mem_cons]
theorem insO_len (o : Ob) : ∀ l : List Ob, (insO l o).length = l.length + 1
  | [] => rfl
  | q :: l => by
    unfold insO
    split
    · simp [insO_len o l]
    · simp
theorem delO_mem {l : List Ob} {s : ByteArray} {p : Ob} : p ∈ delO l s ↔ p ∈ l ∧ p.1 ≠ s := by simp [delO]
theorem delO_len (l : List Ob) (s : ByteArray) : (delO l s).length ≤ l.length := List.length_filter_le _ _
theorem putO_len (l : List Ob) (o : Ob) : (putO l o).length ≤ l.length + 1 := by
  have := delO_len l o.1
  unfold putO
  rw [insO_len]
  omega
theorem putO_mem {l : List Ob} {o p : Ob} : p ∈ putO l o ↔ p = o ∨ (p ∈ l ∧ p.1 ≠ o.1) := by unfold putO; rw [insO_mem, delO_mem]
theorem riseO_del {l : List Ob} (h : RiseO l) (s : ByteArray) : RiseO (delO l s) := h.filter _
theorem riseO_ins {o : Ob} : ∀ {l : List Ob}, RiseO l → (∀ p ∈ l, p.1 ≠ o.1) → RiseO (insO l o)
  | [], _, _ => by simp [insO]
  | q :: l, h, hn => by
    rw [riseO_cons] at h
    unfold insO
    split
    · rename_i hq
      refine List.pairwise_cons.2 ⟨fun p hp => ?_, riseO_ins h.2 fun p hp => hn p (List.mem_cons_of_mem _ hp)⟩
      rcases (insO_mem o p l).1 hp with rfl | hp
      · exact hq
      · exact h.1 p hp
    · rename_i hq
      have hoq : sLt o.1 q.1 = true := by
        rcases sLt_tri o.1 q.1 with h1 | h1 | h1
        · exact h1
        · exact absurd h1.symm (hn q List.mem_cons_self)
        · exact absurd h1 hq
      refine List.pairwise_cons.2 ⟨fun p hp => ?_, List.pairwise_cons.2 h⟩
      rcases List.mem_cons.1 hp with rfl | hp
      · exact hoq
      · exact sLt_trans hoq (h.1 p hp)
theorem riseO_put {l : List Ob} (h : RiseO l) (o : Ob) : RiseO (putO l o) := riseO_ins (riseO_del h _) fun _ hp => (delO_mem.1 hp).2

theorem lookO_none {s : ByteArray} : ∀ {l : List Ob}, (∀ p ∈ l, p.1 ≠ s) → lookO l s = none
  | [], _ => rfl
  | q :: l, h => by
    unfold lookO
    rw [if_neg (h q List.mem_cons_self)]
    exact lookO_none fun p hp => h p (List.mem_cons_of_mem _ hp)
theorem lookO_mem {s d : ByteArray} : ∀ {l : List Ob}, lookO l s = some d → (s, d) ∈ l
  | [], h => by simp [lookO] at h
  | q :: l, h => by
    unfold lookO at h
    split at h
    · rename_i e
      obtain ⟨a, b⟩ := q
      cases h
      subst e
      exact List.mem_cons_self
    · exact List.mem_cons_of_mem _ (lookO_mem h)
theorem mem_lookO : ∀ {l : List Ob} {p : Ob}, RiseO l → p ∈ l → lookO l p.1 = some p.2
  | [], _, _, h => by simp at h
  | q :: l, p, hr, h => by
    rw [riseO_cons] at hr
    unfold lookO
    rcases List.mem_cons.1 h with rfl | h
    · rw [if_pos rfl]
    · rw [if_neg (sLt_ne (hr.1 p h)), mem_lookO hr.2 h]
theorem lookO_del (s t : ByteArray) : ∀ l : List Ob, lookO (delO l s) t = if s = t then none else lookO l t
  | [] => by simp [delO, lookO]
  | q :: l => by
    have ih := lookO_del s t l
    unfold delO at ih ⊢
    rw [List.filter_cons]
    by_cases h : q.1 = s
    · rw [if_neg (by simp [h]), ih]
      by_cases e : s = t
      · simp [e]
      · rw [if_neg e, if_neg e]
        show lookO l t = if q.1 = t then some q.2 else lookO l t
        rw [if_neg (fun e' => e (h.symm.trans e'))]
    · rw [if_pos (by simp [h])]
      unfold lookO
      by_cases e : q.1 = t
      · rw [if_pos e, if_pos e, if_neg (fun e' => h (e.trans e'.symm))]
      · rw [if_neg e, if_neg e]
        have := ih
        rw [this]
theorem lookO_ins (o : Ob) (t : ByteArray) : ∀ {l : List Ob}, (∀ p ∈ l, p.1 ≠ o.1) → lookO (insO l o) t = if o.1 = t then some o.2 else lookO l t
  | [], _ => by simp [insO, lookO]
  | q :: l, hn => by
    have ih := lookO_ins o t (l := l) fun p hp => hn p (List.mem_cons_of_mem _ hp)
    have hq := hn q List.mem_cons_self
    unfold insO
    split
    · simp only [lookO]
      rw [ih]
      by_cases e : q.1 = t
      · rw [if_pos e, if_pos e, if_neg (fun e' => hq (e.trans e'.symm))]
      · rw [if_neg e, if_neg e]
    · simp only [lookO]
theorem lookO_put (l : List Ob) (o : Ob) (t : ByteArray) : lookO (putO l o) t = if o.1 = t then some o.2 else lookO l t := by
  unfold putO
  rw [lookO_ins o t fun _ hp => (delO_mem.1 hp).2, lookO_del]
  by_cases e : o.1 = t <;> simp [e]
theorem obs_ext {l m : List Ob} (hl : RiseO l) (hm : RiseO m) (h : ∀ s, lookO l s = lookO m s) : l = m := by
  have key : ∀ {a b : List Ob}, RiseO a → (∀ s, lookO a s = lookO b s) → ∀ p ∈ a, p ∈ b := fun {a b} ha hab p hp => by
    have h1 := mem_lookO ha hp
    rw [hab] at h1
    exact lookO_mem h1
  have hn : (l.map Prod.fst) = (m.map Prod.fst) := by
    refine rise_unique (List.pairwise_map.2 hl) (List.pairwise_map.2 hm) fun x => ?_
    rw [List.mem_map, List.mem_map]
    exact ⟨fun ⟨p, hp, e⟩ => ⟨p, key hl h p hp, e⟩, fun ⟨p, hp, e⟩ => ⟨p, key hm (fun s => (h s).symm) p hp, e⟩⟩
  refine List.ext_getElem? fun i => ?_
  have hi := congrArg (·[i]?) hn
  simp only [List.getElem?_map] at hi
  cases h1 : l[i]? with
  | none => rw [h1] at hi; cases h2 : m[i]? with
    | none => rfl
    | some q => rw [h2] at hi; cases hi
  | some p => cases h2 : m[i]? with
    | none => rw [h1, h2] at hi; cases hi
    | some q =>
      rw [h1, h2] at hi
      have e1 : p.1 = q.1 := by simpa using hi
      have l1 := mem_lookO hl (List.mem_of_getElem? h1)
      have l2 := mem_lookO hm (List.mem_of_getElem? h2)
      rw [h, e1, l2] at l1
      have e2 : q.2 = p.2 := by simpa using l1
      rw [Prod.ext e1 e2.symm]
theorem lookO_isSome (l : List Ob) (s : ByteArray) : (lookO l s).isSome = decide (s ∈ l.map Prod.fst) := by
  induction l with
  | nil => simp [lookO]
  | cons q l ih =>
    simp only [lookO, List.map_cons, List.mem_cons]
    by_cases e : q.1 = s
    · simp [e]
    · rw [if_neg e, ih]
      have : ¬ s = q.1 := fun e' => e e'.symm
      simp [this]
theorem namesO_rise {l : List Ob} (h : RiseO l) : RiseS (l.map Prod.fst) := List.pairwise_map.2 h

/-- Names whose objects have no part of the room. -/
def bareB (s : ByteArray) : Bool := decide (s = ⟨#[109, 48]⟩) || decide (s = ⟨#[109, 49]⟩)
def usedO : List Ob → Nat
  | [] => 0
  | p :: l => (if bareB p.1 = true then 0 else p.2.size) + usedO l
theorem usedO_ins (o : Ob) : ∀ l : List Ob, usedO (insO l o) = (if bareB o.1 = true then 0 else o.2.size) + usedO l
  | [] => rfl
  | q :: l => by
    unfold insO
    split
    · simp only [usedO, usedO_ins o l]
      omega
    · rfl
theorem usedO_del : ∀ {l : List Ob} (s : ByteArray), RiseO l → usedO (delO l s) + (if bareB s = true then 0 else ((lookO l s).getD ⟨#[]⟩).size) = usedO l
  | [], s, _ => by
    show 0 + (if bareB s = true then 0 else 0) = 0
    split <;> rfl
  | q :: l, s, h => by
    rw [riseO_cons] at h
    have ih := usedO_del (l := l) s h.2
    by_cases e : q.1 = s
    · have hno : ∀ p ∈ l, p.1 ≠ s := fun p hp => fun e' => sLt_ne (h.1 p hp) (e.trans e'.symm)
      have h1 : delO (q :: l) s = l := by
        unfold delO
        rw [List.filter_cons, if_neg (by simp [e])]
        exact List.filter_eq_self.2 fun p hp => by simp [hno p hp]
      rw [h1]
      simp only [lookO, usedO, if_pos e, Option.getD_some]
      rw [e]
      omega
    · have h1 : delO (q :: l) s = q :: delO l s := by
        unfold delO
        rw [List.filter_cons, if_pos (by simp [e])]
      rw [h1]
      simp only [lookO, usedO, if_neg e]
      omega
theorem usedO_put {l : List Ob} (h : RiseO l) (o : Ob) (hb : bareB o.1 = false) : (usedO (putO l o) : Int) = (usedO l : Int) - (((lookO l o.1).getD ⟨#[]⟩).size : Nat) + (o.2.size : Nat) := by
  have h1 := usedO_del o.1 h
  have h2 := usedO_ins o (delO l o.1)
  unfold putO
  rw [hb] at h1 h2
  simp at h1 h2
  omega
theorem usedO_le {l : List Ob} {M : Nat} (h : ∀ p ∈ l, p.2.size ≤ M) : usedO l ≤ l.length * M := by
  induction l with
  | nil => simp [usedO]
  | cons q l ih =>
    have h1 := h q List.mem_cons_self
    have h2 := ih fun p hp => h p (List.mem_cons_of_mem _ hp)
    simp only [usedO, List.length_cons, Nat.succ_mul]
    split <;> omega
end Go.Proofs.Ytfkonpmnclknaaa
