/-
  A range over a function whose iterator keeps a state of its own in memory: Tw is what the iterator does between two rounds; the caller's invariant abides it.
-/
import Derived.RangeFuncWrites
import Derived.RangeFuncLeaves
import Derived.Test.YtdhlmhkabckbaaaGreatDoorShaA
import Derived.Test.YtdhlmhkabckbaaaGreatDoorWkA
import Derived.Test.YtdhlmhkabckbaaaGreatDoorLayI
import Derived.Shelf.Strings.Search3
import Derived.Lib.IndexLaws
import Derived.RangeFuncNested
import Derived.Shelf.Abstract
import Derived.OwnWalkIn
import Derived.TacticsInMore
import Derived.LoopNIn
import Derived.LoopIn
namespace Go.Proofs.YtdhlmhkabckbaaaGreatDoor
open Go.RowKit

/-- The iterator's promise: whatever it does itself is Tw, time and again. -/
def SeqTw {α : Type} (F : Fence) (n : Nat) (P : Program) (g : Nat) (lb : Array Value) (encs : α → Array Value) (Tw Kp : World → World → Prop) (S Sp : List α → Prop) (N : Nat) (w : World) : Prop :=
  ∀ (l : Nat) (J Jx : List α → World → Prop) (W : World), Below w.heap.size w W → (∀ s A B, J s A → Tw A B → J s B) → (∀ s A B, Jx s A → Tw A B → Jx s B) →
    (∀ pre x A, J pre A → pre.length < N → YieldAt F (n - 1) P l (encs x) A fun e B =>
      (e = .returned (.bool true) ∧ J (pre ++ [x]) B ∧ Kp A B) ∨ (e = .returned (.bool false) ∧ Jx (pre ++ [x]) B)) →
    J [] W → CallsIn F n P g (#[.func (.yield l) #[] #[]] ++ lb) W fun e B => (∃ v, e = .returned v) ∧ ((∃ xs, S xs ∧ J xs B) ∨ (∃ pre, Sp pre ∧ Jx pre B))

/-- How a round's body may end: it goes on, or it returns. -/
def twPost {α : Type} (Kp : World → World → Prop) (I Ix : List α → World → Prop) (xs : List α) (A : World) : Exit → Act → World → Prop
  | .normal, _, B => KeepsOthers A B ∧ Kp A B ∧ I xs B
  | .ret, _, B => KeepsOthers A B ∧ Ix xs B
  | _, _, _ => False

/-- The loop's two blocks. -/
structure Two2 (r : LoopState → Option Code → Loop) (l D : Nat) (st : LoopState) (pe : Option Code) (W : World) : Prop where
  loop : W.heap[l]? = some (.loop (r st pe))
  defs : W.heap[D]? = some (.deferred (some []))

theorem wpIn_range_tw {F : Fence} {n : Nat} {P : Program} {α : Type} {g : Operand} {ps : Array Tmp} {assign body : Code} {Q : Exit → Act → World → Prop} {a : Act} {w : World}
    (hro : F.round = none) (h1 : 1 ≤ n) {gf : Nat} {lb : Array Value} (hg : a.eval g = .func (.func gf) #[] lb) (hFg : F.fn gf) (eg : ∀ args w, (callFunc gf args).run P w = .ok (.enter gf args) w)
    {encs : α → Array Value} {Tw Kp : World → World → Prop} {S Sp : List α → Prop} {N : Nat} {w0 : World} (hseq : SeqTw F (n - 1) P gf lb encs Tw Kp S Sp N w0) (hb0 : Below w0.heap.size w0 w) (hps : ∀ x, (encs x).size = ps.size)
    (hTw : ∀ A B, Tw A B → ∀ (k : Nat) (o : Obj), A.heap[k]? = some o → o.isCells = false → B.heap[k]? = some o)
    (hKt : ∀ {A B C : World}, Kp A B → Kp B C → Kp A C) (hKb : ∀ (W : World) (l : Nat) (o o' : Obj), w.heap.size ≤ l → W.heap[l]? = some o → o.isCells = false → Kp W (W.putObj l o'))
    (I Ix : List α → World → Prop) (hI : OwnFrom w.heap.size I) (hIx : OwnFrom w.heap.size Ix) (hIt : ∀ s A B, I s A → Tw A B → I s B) (hIxt : ∀ s A B, Ix s A → Tw A B → Ix s B) (h0 : I [] w) (a₁ : α → Act)
    (hassign : ∀ (l : Nat) (x : α) (W : World) (K : Act → World → Prop), K (a₁ x) W →
      assign.wpIn (F.inRound l) (n - 1 - 1) P (Exit.then K (fun _ _ _ => False)) { tmps := (ps.zip (encs x)).foldl (fun t (p, v) => t.setIfInBounds p v) a.tmps, defers := [] } W)
    (hbody : ∀ (l : Nat) (pre : List α) (x : α) (W : World), I pre W → pre.length < N → body.wpIn (F.inRound l) (n - 1 - 1) P (twPost Kp I Ix (pre ++ [x]) W) (a₁ x) W)
    (hdone : ∀ (D : Nat) (xs : List α) (W : World), w.heap.size ≤ D → S xs → I xs W → W.heap[D]? = some (.deferred (some [])) → Q .normal { a with defers := { target := .collected D, args := #[] } :: a.defers } W)
    (hstop : ∀ (D : Nat) (pre : List α) (W : World), w.heap.size ≤ D → Sp pre → Ix pre W → W.heap[D]? = some (.deferred (some [])) → Code.ret.wpIn F n P Q { a with defers := { target := .collected D, args := #[] } :: a.defers } W) :
    (Code.rangeFunc g ps assign body).wpIn F n P Q a w := by
  refine wpIn_rangeFunc fun fn hfn => ?_
  rw [hro]
  have hrec : ∃ r : LoopState → Option Code → Loop, r = fun st pe => ⟨st, pe, fn, a.tmps, ps, assign, body, w.heap.size⟩ := ⟨_, rfl⟩
  obtain ⟨r, hr⟩ := hrec
  have hr1 : ∀ st pe, (r st pe).params = ps := fun st pe => by rw [hr]
  have hr2 : ∀ st pe, (r st pe).state = st := fun st pe => by rw [hr]
  have hr3 : ∀ st pe st' pe', { r st pe with state := st', pending := pe' } = r st' pe' := fun st pe st' pe' => by rw [hr]
  have hr4 : ∀ st pe st', { r st pe with state := st' } = r st' pe := fun st pe st' => by rw [hr]
  have hr5 : ∀ st pe, (r st pe).fn = fn ∧ (r st pe).tmps = a.tmps ∧ (r st pe).assign = assign ∧ (r st pe).body = body := fun st pe => by rw [hr]; exact ⟨rfl, rfl, rfl, rfl⟩
  have hr6 : ∀ st pe, (r st pe).pending = pe := fun st pe => by rw [hr]
  -- the two blocks are laid
  have hent := run_enterLoop_outer (P := P) (w := w) fn a.tmps ps assign body
  have hlaid : ∃ W1, W1 = (w.alloc (.deferred (some []))).alloc (.loop (r .ready none)) := ⟨_, rfl⟩
  obtain ⟨W1, hW1⟩ := hlaid
  have hB : Below w.heap.size w W1 := by rw [hW1]; exact ((Below.refl _ w).alloc (Nat.le_refl _) _).alloc (by simp) _
  have hz : w.heap.size + 1 + 1 = W1.heap.size := by rw [hW1]; simp
  have h2 : Two2 r (w.heap.size + 1) w.heap.size .ready none W1 := by
    rw [hW1]
    constructor
    · have := World.alloc_heap_new (w.alloc (.deferred (some []))) (.loop (r .ready none))
      rwa [World.size_alloc] at this
    · exact (Below.heap_alloc _ _ _ (by simp)).trans (World.alloc_heap_new w _)
  have hI1 : I [] W1 := by rw [hW1]; exact hI.alloc _ (hI.alloc _ h0)
  generalize hlq : w.heap.size + 1 = l at h2
  have hTwo : ∀ {st pe A B}, Two2 r l w.heap.size st pe A → Tw A B → Two2 r l w.heap.size st pe B := fun h t => ⟨hTw _ _ t _ _ h.loop rfl, hTw _ _ t _ _ h.defs rfl⟩
  have hKee : ∀ {st pe A B}, Two2 r l w.heap.size st pe A → KeepsOthers A B → Two2 r l w.heap.size st pe B := fun h t => ⟨t.same _ _ h.loop rfl, t.same _ _ h.defs rfl⟩
  have hPut : ∀ {st pe A} (st' pe'), Two2 r l w.heap.size st pe A → Two2 r l w.heap.size st' pe' (A.putObj l (.loop (r st' pe'))) := fun st' pe' h =>
    ⟨World.putObj_heap_same (Array.getElem?_eq_some_iff.1 h.loop).1, (World.putObj_heap_other (by omega)).trans h.defs⟩
  refine ⟨l, [{ target := .collected w.heap.size, args := #[] }], W1, { target := .fn (.func gf) lb, args := #[.func (.yield l) #[] #[]] }, W1, gf, #[.func (.yield l) #[] #[]] ++ lb, W1, ?_, ?_, ?_, ?_, fun _ => h1, ?_⟩
  · rw [hent, hW1, hr, hlq]
  · simp only [resolve, hg]
    simp [go_sem]
  · intro f hf
    simp only [Target.leads, Option.some.injEq] at hf
    exact hf ▸ hFg
  · simp [invoke, go_sem, eg]
  refine (hseq l (fun pre W => I pre W ∧ Two2 r l w.heap.size .ready none W) (fun pre W => Ix pre W ∧ Two2 r l w.heap.size .done (some .ret) W) W1 (hb0.trans (hB.mono hb0.size))
    (fun s A B h t => ⟨hIt s A B h.1 t, hTwo h.2 t⟩) (fun s A B h t => ⟨hIxt s A B h.1 t, hTwo h.2 t⟩) ?_ ⟨hI1, h2⟩).mono ?_
  · rintro pre x A ⟨hi, ht⟩ hlen
    have hy := run_yield (P := P) (args := encs x) ht.loop (by rw [hr1]; exact hps x)
    rw [(hr5 _ _).1, (hr5 _ _).2.1, (hr5 _ _).2.2.1, (hr5 _ _).2.2.2, hr1] at hy
    refine ⟨fn, _, assign, body, hy, roundIn_of_wpIn hfn (hassign l x A _ ?_)⟩
    have hbeg := run_beginRound (P := P) ht.loop (hr2 _ _)
    rw [hr4] at hbeg
    refine ⟨_, hbeg, ?_⟩
    have hk0 : Kp A (A.putObj l (.loop (r .busy none))) := hKb _ _ _ _ (by omega) ht.loop rfl
    have ht1 := hPut .busy none ht
    refine wpIn_mono (hbody l pre x _ (hI.putObj _ hi (by omega) ht.loop rfl) hlen) ?_
    intro e a3 C hp
    cases e with
    | normal =>
      obtain ⟨hko, hkp, hic⟩ := hp
      have ht2 := hKee ht1 hko
      have he := run_endRound (P := P) none ht2.loop
      rw [hr3] at he
      exact ⟨_, _, he, .inl ⟨rfl, ⟨hI.putObj _ hic (by omega) ht2.loop rfl, hPut .ready none ht2⟩, hKt (hKt hk0 hkp) (hKb _ _ _ _ (by omega) ht2.loop rfl)⟩⟩
    | ret =>
      obtain ⟨hko, hic⟩ := hp
      have ht2 := hKee ht1 hko
      have he := run_endRound (P := P) (some .ret) ht2.loop
      rw [hr3] at he
      exact ⟨_, _, he, .inr ⟨rfl, hIx.putObj _ hic (by omega) ht2.loop rfl, hPut .done (some .ret) ht2⟩⟩
    | exit _ => exact hp.elim
    | goto _ => exact hp.elim
    | panic _ => exact hp.elim
    | outgrown => exact hp.elim
  · rintro e B ⟨⟨v, rfl⟩, hq⟩
    rcases hq with ⟨xs, hS, hi, ht⟩ | ⟨pre, hS, hi, ht⟩
    · have he := run_endLoop (P := P) ht.loop (by rw [hr2]; simp)
      rw [hr4, hr6] at he
      exact ⟨none, _, he, hdone _ xs _ (Nat.le_refl _) hS (hI.putObj _ hi (by omega) ht.loop rfl) ((World.putObj_heap_other (by omega)).trans ht.defs)⟩
    · have he := run_endLoop (P := P) ht.loop (by rw [hr2]; simp)
      rw [hr4, hr6] at he
      exact ⟨some .ret, _, he, hstop _ pre _ (Nat.le_refl _) hS (hIx.putObj _ hi (by omega) ht.loop rfl) ((World.putObj_heap_other (by omega)).trans ht.defs)⟩
end Go.Proofs.YtdhlmhkabckbaaaGreatDoor
/-
  Package path: what a step may be.
-/
namespace Go.Proofs.YtdhlmhkabckbaaaGreatDoor
open Go.RowKit

def badB (c : UInt8) : Bool := decide (c.toNat ≤ 32) || decide (126 < c.toNat)
theorem badB_or (c : UInt8) : (decide ((c.toNat : Int) ≤ 32) || decide (126 < (c.toNat : Int))) = badB c := by
  unfold badB
  congr 1 <;> (apply decide_eq_decide.2; omega)
theorem path_step1 (c : UInt8) (w : World) : Calls Tryz.prog 159 #[.int .u8 c.toNat] w fun e w' => e = .returned (.bool (badB c)) ∧ w' = w := by
  by_cases h1 : (c.toNat : Int) ≤ 32
  · have hb : Hid (badB c = true) := by unfold Hid; rw [← badB_or]; simp [h1]
    go_enter Tryz.func159, Tryz.ntmps159
    go_wp2_with fail
    go_ret
    exact ⟨by rw [hb.out]; rfl, rfl⟩
  · have hd := Lib.hid (decide_eq_false h1)
    go_enter Tryz.func159, Tryz.ntmps159
    go_wp2_with fail
    go_ret
    exact ⟨ret_bool (by rw [← badB_or, hd.out, Bool.false_or]), rfl⟩

/-- The first bad byte, counted from k. -/
def idxBad : List UInt8 → Int → Int
  | [], _ => -1
  | c :: l, k => if badB c then k else idxBad l (k + 1)
theorem idxBad_neg : ∀ (l : List UInt8) (k : Int), 0 ≤ k → (0 ≤ idxBad l k ↔ l.any badB = true)
  | [], k, _ => by simp [idxBad]
  | c :: l, k, hk => by
    unfold idxBad
    rw [List.any_cons]
    cases badB c with
    | true => simp [hk]
    | false => simpa using idxBad_neg l (k + 1) (by omega)

set_option maxRecDepth 100000 in
theorem idxFunc_bad (A : Option Addr) (n c B : Nat) (l : List UInt8) (w : World) (hl : RowAt 1 byteCell w B A n l) :
    Calls Tryz.prog 197 #[.slice A n c, .func (.func 159) #[] #[]] w fun e w' => e = .returned (.int .i64 (idxBad l 0)) ∧ w' = w := by
  have hn := Lib.hid hl.1
  have hnn := hl.2.1
  go_enter Tryz.func197, Tryz.ntmps197
  go_wp2_with fail
  go_loopw [5, 8] (fun _ ti wr => ∃ k : Nat, k ≤ n ∧ ti = .int .i64 k ∧ Hid (idxBad l 0 = idxBad (l.drop k) k) ∧ wr = w) (fun _ ti _ => n - (intOf ti).toNat)
  case atStart => exact ⟨0, Nat.zero_le _, rfl, rfl, rfl⟩
  case round =>
    obtain ⟨k, hk, rfl, hgo, rfl⟩ := hrel
    by_cases hlt : k < n
    · obtain ⟨b, off, e0, hb, hc⟩ := hl.2.2 (by omega)
      obtain ⟨x, hx⟩ := getElem_some (l := l) (i := k) (by rw [hn.out]; exact hlt)
      have c0 := hc k x hx 0 _ rfl
      subst e0
      simp only [Nat.mul_one, Nat.add_zero] at c0
      have hd : Hid (idxBad (l.drop k) k = if badB x then (k : Int) else idxBad (l.drop (k + 1)) ((k : Int) + 1)) := by unfold Hid; rw [drop_cons hx]; rfl
      have hi1 : (k : Int) < (n : Int) := by omega
      clear hc hx
      have hcl := path_step1 x wr
      cases hbx : badB x with
      | true =>
        rw [hbx] at hcl hd
        replace hbx := Lib.hid hbx
        go_wp2_with fail
        refine hcl.mono ?_
        rintro e w1 ⟨rfl, rfl⟩
        go_wp2_with fail
        go_ret
        exact ⟨ret_int (by rw [hgo.out, hd.out]; rfl), rfl⟩
      | false =>
        rw [hbx] at hcl hd
        replace hbx := Lib.hid hbx
        go_wp2_with fail
        refine hcl.mono ?_
        rintro e w1 ⟨rfl, rfl⟩
        go_wp2_with fail
        go_roundw
        case rel => exact ⟨k + 1, by omega, by go_num, by rw [Hid, hgo.out, hd.out]; simp, trivial⟩
        case measure => simp [intOf]; omega
    · obtain rfl : k = n := by omega
      have hd : Hid (idxBad (l.drop k) k = -1) := by unfold Hid; rw [List.drop_eq_nil_of_le (by rw [hn.out]; exact Nat.le_refl _)]; rfl
      go_wp2_with fail
      go_ret
      exact ⟨ret_int (by rw [hgo.out, hd.out]), rfl⟩
theorem containsFunc_bad (A : Option Addr) (n c B : Nat) (l : List UInt8) (w : World) (hl : RowAt 1 byteCell w B A n l) :
    Calls Tryz.prog 158 #[.slice A n c, .func (.func 159) #[] #[]] w fun e w' => e = .returned (.bool (l.any badB)) ∧ w' = w := by
  have hi := idxFunc_bad A n c B l w hl
  have hb : Hid (decide (0 ≤ idxBad l 0) = l.any badB) := by
    have := idxBad_neg l 0 (Int.le_refl _)
    unfold Hid
    cases hb : l.any badB with
    | true => rw [hb] at this; simp; exact this.2 rfl
    | false => rw [hb] at this; simp; have h2 : ¬ (0 ≤ idxBad l 0) := fun h => by simpa using this.1 h
               omega
  generalize idxBad l 0 = i at hi hb
  go_enter Tryz.func158, Tryz.ntmps158
  go_wp2_with fail
  refine hi.mono ?_
  rintro e w1 ⟨rfl, rfl⟩
  go_wp2_with fail
  go_ret
  exact ⟨ret_bool hb.out, rfl⟩

/-- May a text be a step? -/
def stepF (s : ByteArray) : Bool := !(s.toList.isEmpty || decide (32 < (s.size : Int)) || s.toList == [46] || s.toList == [46, 46]) && !(bl s).any badB
theorem stepF_no {s : ByteArray} (h : s.toList = [] ∨ 32 < (s.size : Int) ∨ s.toList = [46] ∨ s.toList = [46, 46]) : stepF s = false := by
  unfold stepF
  rcases h with h | h | h | h <;> simp [h]
set_option maxRecDepth 100000 in
theorem path_step (s : ByteArray) (hs : s.size ≤ 1000000) (w : World) : Calls Tryz.prog 107 #[.string s] w fun e w' => e = .returned (.bool (stepF s)) ∧ Below w.heap.size w w' := by
  have hcv := Lib.run_convert_string_bytes (P := Tryz.prog) w 9 46 5 s Tryz.underlying9 Tryz.underlying46 Tryz.underlying5
  have hrow := bytes_rowH w 5 s (by omega)
  have hbb := below_bytesH w 5 s
  obtain ⟨cp, hcp⟩ : ∃ cp, cp = grownCap w s.size 0 5 := ⟨_, rfl⟩
  rw [← hcp] at hcv
  clear hcp
  generalize Lib.bytesWorld w 5 s = w2 at hcv hrow hbb
  have hcf := containsFunc_bad (some ⟨w.heap.size, 0, none⟩) s.size cp w2.heap.size (bl s) w2 hrow
  clear hrow
  go_enter Tryz.func107, Tryz.ntmps107
  go_wp2_with fail
  iterate 3 (
    go_ret
    exact ⟨ret_bool (stepF_no (by grind)).symm, Below.refl _ _⟩)
  · have hS : Hid (stepF s = !(bl s).any badB) := by unfold Hid stepF; grind
    refine hcf.mono ?_
    rintro e w3 ⟨rfl, rfl⟩
    go_wp2_with fail
    go_ret
    exact ⟨ret_bool (by rw [hS.out]; simp), hbb⟩
  · go_ret
    exact ⟨ret_bool (stepF_no (by grind)).symm, Below.refl _ _⟩
end Go.Proofs.YtdhlmhkabckbaaaGreatDoor

/-
  strings.SplitSeq at '/': the pieces of a text; path.May.
-/
namespace Go.Proofs.YtdhlmhkabckbaaaGreatDoor
open Go.RowKit Go.Shelf
attribute [local go_sem] Oper.semAt_some

/-- The pieces of a text, between the '/'s. -/
def splitGo : Nat → ByteArray → List ByteArray
  | 0, s => [s]
  | f + 1, s => if Lib.indexByte s.data.toList 47 < 0 then [s] else s.extract 0 (Lib.indexByte s.data.toList 47).toNat :: splitGo f (s.extract ((Lib.indexByte s.data.toList 47).toNat + 1) s.size)
def piecesF (s : ByteArray) : List ByteArray := splitGo (s.size + 1) s
theorem slash_lt {s : ByteArray} (h : ¬ Lib.indexByte s.data.toList 47 < 0) : (Lib.indexByte s.data.toList 47).toNat < s.size := by
  have h1 : Lib.indexByte s.data.toList 47 = ((Lib.indexByte s.data.toList 47).toNat : Nat) := by omega
  have h2 := (Lib.indexByte_some h1).1
  have h3 := (List.getElem?_eq_some_iff.1 h2).1
  rw [Array.length_toList] at h3
  exact h3

theorem split_make (F : Fence) (n : Nat) (hf : F.fn 157) (hro : F.round = none) (s : ByteArray) (w : World) :
    CallsIn F n Tryz.prog 157 #[.string s, .string ⟨#[47]⟩, .int .i64 0] w fun e w' => e = .returned (.func (.func 196) #[] #[.pointer (some ⟨w.heap.size + 1, 0, none⟩), .pointer (some ⟨w.heap.size, 0, none⟩), .pointer (some ⟨w.heap.size + 1 + 1, 0, none⟩)]) ∧
      w' = ((w.alloc (.cells #[.string s] 9)).alloc (.cells #[.string ⟨#[47]⟩] 9)).alloc (.cells #[.int .i64 0] 3) := by
  have hmf : ∀ (fn : Fn) (first cap : Array Value) (w : World), (Instr.makeFunc fn first cap).run Tryz.prog w = .ok (.func fn first cap) w := fun _ _ _ _ => rfl
  refine callsIn_of_wp Tryz.func157 rfl hf ?_ hro
  simp only [Tryz.ntmps157, List.size_toArray, List.length_cons, List.length_nil, Nat.reduceAdd, Nat.reduceSub, Array.replicate_succ, Array.replicate_zero, List.push_toArray, List.append_toArray, List.nil_append, List.cons_append]
  gi_wp2
  go_ret
  exact ⟨rfl, rfl⟩
theorem splitSeq_make (F : Fence) (n : Nat) (hn : 1 ≤ n) (hf : F.fn 106) (hf2 : F.fn 157) (hro : F.round = none) (s : ByteArray) (w : World) :
    CallsIn F n Tryz.prog 106 #[.string s, .string ⟨#[47]⟩] w fun e w' => e = .returned (.func (.func 196) #[] #[.pointer (some ⟨w.heap.size + 1, 0, none⟩), .pointer (some ⟨w.heap.size, 0, none⟩), .pointer (some ⟨w.heap.size + 1 + 1, 0, none⟩)]) ∧
      w' = ((w.alloc (.cells #[.string s] 9)).alloc (.cells #[.string ⟨#[47]⟩] 9)).alloc (.cells #[.int .i64 0] 3) := by
  refine callsIn_of_wp Tryz.func106 rfl hf ?_ hro
  simp only [Tryz.ntmps106, List.size_toArray, List.length_cons, List.length_nil, Nat.reduceAdd, Nat.reduceSub, Array.replicate_succ, Array.replicate_zero, List.push_toArray, List.append_toArray, List.nil_append, List.cons_append]
  gi_wp2_with (gi_at_call 157; refine (split_make F _ hf2 hro _ _).mono ?_; rintro e w' ⟨rfl, rfl⟩)
  go_ret
  exact ⟨rfl, rfl⟩

/-- What the iterator does itself: it writes over its own box. -/
def BoxTw (b : Nat) (A B : World) : Prop := ∃ v, B = A.setCell ⟨b, 0, none⟩ v

def sizeAt (b : Nat) (w : World) : Nat := match w.cell? ⟨b, 0, none⟩ with
  | some (.string r) => r.size
  | _ => 0
theorem sizeAt_eq {b : Nat} {w : World} {r : ByteArray} (h : w.cell? ⟨b, 0, none⟩ = some (.string r)) : sizeAt b w = r.size := by unfold sizeAt; rw [h]

set_option maxRecDepth 100000 in
set_option maxHeartbeats 2000000 in
theorem split_stops (n : Nat) (hn : 3 ≤ n) (b1 b2 b3 n0 : Nat) (s : ByteArray) (w : World) (h1 : w.cell? ⟨b1, 0, none⟩ = some (.string ⟨#[47]⟩)) (h2 : w.cell? ⟨b2, 0, none⟩ = some (.string s)) (h3 : w.cell? ⟨b3, 0, none⟩ = some (.int .i64 0))
    (hz : w.frozen? ⟨b2, 0, none⟩ = false) (hb : b1 < n0 ∧ b2 < n0 ∧ b3 < n0 ∧ b1 ≠ b2 ∧ b3 ≠ b2) (h0 : n0 ≤ w.heap.size) (hs : s.size ≤ 1000000) :
    SeqTw Fence.wide n Tryz.prog 196 #[.pointer (some ⟨b1, 0, none⟩), .pointer (some ⟨b2, 0, none⟩), .pointer (some ⟨b3, 0, none⟩)] (fun x : ByteArray => #[.string x]) (BoxTw b2) (Below n0) (fun xs => xs = piecesF s) (fun pre => pre <+: piecesF s) (s.size + 2) w := by
  intro l J Jx W hW hJ hJx hY hJ0
  have hn1 : 1 ≤ n := by omega
  have c1 := (hW.cell (p := ⟨b1, 0, none⟩) (show b1 < w.heap.size by omega)).trans h1
  have c2 := (hW.cell (p := ⟨b2, 0, none⟩) (show b2 < w.heap.size by omega)).trans h2
  have c3 := (hW.cell (p := ⟨b3, 0, none⟩) (show b3 < w.heap.size by omega)).trans h3
  have cz := (hW.frozen (p := ⟨b2, 0, none⟩) (show b2 < w.heap.size by omega)).trans hz
  replace hY := Lib.hid hY
  replace hJ := Lib.hid hJ
  replace hJx := Lib.hid hJx
  refine callsIn_of_wp Tryz.func196 rfl trivial ?_ rfl
  simp only [Tryz.ntmps196, List.size_toArray, List.length_cons, List.length_nil, Nat.reduceAdd, Nat.reduceSub, Array.replicate_succ, Array.replicate_zero, List.push_toArray, List.append_toArray, List.nil_append, List.cons_append]
  gi_wp2
  gi_loopw [7] (fun _ wr => ∃ (pre : List ByteArray) (r : ByteArray) (f : Nat), Hid (piecesF s = pre ++ splitGo f r) ∧ r.size < f ∧ pre.length + r.size ≤ s.size ∧ J pre wr ∧ wr.cell? ⟨b1, 0, none⟩ = some (.string ⟨#[47]⟩) ∧ wr.cell? ⟨b2, 0, none⟩ = some (.string r) ∧ wr.cell? ⟨b3, 0, none⟩ = some (.int .i64 0) ∧
    wr.frozen? ⟨b2, 0, none⟩ = false) (fun _ wr => sizeAt b2 wr)
  case atStart => exact ⟨[], s, s.size + 1, rfl, by omega, by simp, hJ0, c1, c2, c3, cz⟩
  case round =>
    clear c1 c2 c3 cz hJ0 hW h1 h2 h3 hz
    obtain ⟨pre, r, f, hp, hf, hlen, hJr, c1, c2, c3, cz⟩ := hrel
    have hm := sizeAt_eq c2
    by_cases hi : Lib.indexByte r.data.toList 47 < 0
    · have hpp : Hid (piecesF s = pre ++ [r]) := by
        unfold Hid
        rw [hp.out]
        cases f with
        | zero => rfl
        | succ f => rw [splitGo, if_pos hi]
      obtain ⟨fn, tmps, assign, body, hy, hR⟩ := hY.out pre r wr hJr (by omega)
      have hx : Calls Tryz.prog 128 #[.string r, .string ⟨#[47]⟩] wr fun e w' => e = .returned (.int .i64 (Lib.indexByte r.data.toList 47)) ∧ w' = wr := Any.strings_Index_one Tryz.sIndex r 47 wr
      generalize Lib.indexByte r.data.toList 47 = k at hi hx
      gi_wp2_with (refine ⟨trivial, ?_⟩; gi_at_call 128; refine (callsIn_wide.2 hx).mono ?_; rintro e w' ⟨rfl, rfl⟩)
      refine hR.mono ?_
      rintro e W3 (⟨rfl, hJ3, hk3⟩ | ⟨rfl, hJx3⟩)
      · gi_wp2
        go_end0
        exact ⟨⟨_, rfl⟩, .inl ⟨_, rfl, by rw [hpp.out]; exact hJ3⟩⟩
      · gi_wp2
        go_end0
        exact ⟨⟨_, rfl⟩, .inr ⟨_, ⟨[], by rw [hpp.out, List.append_nil]⟩, hJx3⟩⟩
    · have hlt := slash_lt hi
      obtain ⟨f, rfl⟩ : ∃ g, f = g + 1 := ⟨f - 1, by omega⟩
      have hpp : Hid (piecesF s = (pre ++ [r.extract 0 (Lib.indexByte r.data.toList 47).toNat]) ++ splitGo f (r.extract ((Lib.indexByte r.data.toList 47).toNat + 1) r.size)) := by
        unfold Hid
        rw [hp.out, splitGo, if_neg hi, List.append_assoc]
        rfl
      obtain ⟨fn, tmps, assign, body, hy, hR⟩ := hY.out pre (r.extract 0 (Lib.indexByte r.data.toList 47).toNat) wr hJr (by omega)
      have hx : Calls Tryz.prog 128 #[.string r, .string ⟨#[47]⟩] wr fun e w' => e = .returned (.int .i64 (Lib.indexByte r.data.toList 47)) ∧ w' = wr := Any.strings_Index_one Tryz.sIndex r 47 wr
      obtain ⟨k, hk⟩ : ∃ k : Nat, Lib.indexByte r.data.toList 47 = (k : Int) := ⟨(Lib.indexByte r.data.toList 47).toNat, by omega⟩
      rw [hk] at hi hx hpp hy hR hlt
      simp only [Int.toNat_natCast] at hpp hy hR hlt
      replace hk := Lib.hid hk
      gi_wp2_with (refine ⟨trivial, ?_⟩; gi_at_call 128; refine (callsIn_wide.2 hx).mono ?_; rintro e w' ⟨rfl, hw'⟩; obtain rfl := hw'.symm)
      refine hR.mono ?_
      rintro e W3 (⟨rfl, hJ3, hk3⟩ | ⟨rfl, hJx3⟩)
      · have d1 := (hk3.cell (p := ⟨b1, 0, none⟩) (show b1 < n0 by omega)).trans c1
        have d2 := (hk3.cell (p := ⟨b2, 0, none⟩) (show b2 < n0 by omega)).trans c2
        have d3 := (hk3.cell (p := ⟨b3, 0, none⟩) (show b3 < n0 by omega)).trans c3
        have dz := (hk3.frozen (p := ⟨b2, 0, none⟩) (show b2 < n0 by omega)).trans cz
        have hJ4 := hJ.out _ _ _ hJ3 ⟨.string (r.extract (k + 1) r.size), rfl⟩
        clear c1 c2 c3 cz hR hJr
        gi_wp2
        have hsz : (r.extract (k + 1) r.size).size = r.size - (k + 1) := by simp [ByteArray.size_extract]
        have e2 : (W3.setCell ⟨b2, 0, none⟩ (.string (r.extract (k + 1) r.size))).cell? ⟨b2, 0, none⟩ = some (.string (r.extract (k + 1) r.size)) := World.cell?_setCell_same' _ _ _ (by rw [d2]; rfl)
        go_roundw
        case rel =>
          refine ⟨_, r.extract (k + 1) r.size, f, hpp, by omega, by simp only [List.length_append, List.length_cons, List.length_nil]; omega, hJ4, ?_, e2, ?_, ?_⟩
          · rw [World.cell?_setCell_other _ _ _ _ (by intro e; injection e; omega)]; exact d1
          · rw [World.cell?_setCell_other _ _ _ _ (by intro e; injection e; omega)]; exact d3
          · rw [World.frozen?_setCell]; exact dz
        case measure => rw [sizeAt_eq e2, hm]; omega
      · gi_wp2
        refine bodyPost_ret (results_none rfl _ _ _) rfl ?_
        exact ⟨⟨_, rfl⟩, .inr ⟨_, ⟨_, hpp.out.symm⟩, hJx3⟩⟩

/-- A path. -/
def mayP (s : ByteArray) : Bool := decide ((s.size : Int) ≤ 96) && (piecesF s).all stepF

theorem piece_size : ∀ (f : Nat) (s x : ByteArray), x ∈ splitGo f s → x.size ≤ s.size
  | 0, s, x, h => by simp only [splitGo, List.mem_singleton] at h; rw [h]; exact Nat.le_refl _
  | f + 1, s, x, h => by
    unfold splitGo at h
    split at h
    · rw [List.mem_singleton.1 h]; exact Nat.le_refl _
    · rcases List.mem_cons.1 h with rfl | h
      · simp [ByteArray.size_extract]; omega
      · have := piece_size f _ x h
        simp [ByteArray.size_extract] at this
        omega

set_option maxRecDepth 100000 in
theorem path_step_any (s : ByteArray) (w : World) : Calls Tryz.prog 107 #[.string s] w fun e w' => e = .returned (.bool (stepF s)) ∧ Below w.heap.size w w' := by
  by_cases hs : s.size ≤ 1000000
  · exact path_step s hs w
  · have h1 : (32 : Int) < (s.size : Int) := by omega
    have hS : Hid (stepF s = false) := by unfold Hid; exact stepF_no (by grind)
    go_enter Tryz.func107, Tryz.ntmps107
    go_wp2_with fail
    all_goals (go_ret; exact ⟨ret_bool hS.out.symm, Below.refl _ _⟩)

set_option maxRecDepth 100000 in
set_option maxHeartbeats 2000000 in
theorem path_May (s : ByteArray) (w : World) : Calls Tryz.prog 66 #[.string s] w fun e w' => e = .returned (.bool (mayP s)) ∧ Below w.heap.size w w' := by
  refine (callsIn_wide (n := 9)).1 ?_
  refine callsIn_of_wp_marks Tryz.func66 rfl trivial ?_ rfl
  simp only [Tryz.ntmps66, List.size_toArray, List.length_cons, List.length_nil, Nat.reduceAdd, Nat.reduceSub, Array.replicate_succ, Array.replicate_zero, List.push_toArray, List.append_toArray, List.nil_append, List.cons_append]
  by_cases hs : (96 : Int) < (s.size : Int)
  · have hm : Hid (mayP s = false) := by unfold Hid mayP; rw [decide_eq_false (by omega)]; rfl
    have hc := newCell w #[.bool false] 4 (0, 0) 0
    gi_wp2
    exact ⟨.bool false, by simp [results, Tryz.results66, go_sem, hc], ret_bool hm.out.symm, (Below.refl _ w).alloc (Nat.le_refl _) _⟩
  · gi_wp2_with (refine ⟨trivial, ?_⟩; gi_at_call 106; refine (splitSeq_make Fence.wide _ (by omega) trivial trivial rfl _ _).mono ?_; rintro e w' ⟨rfl, rfl⟩)
    obtain ⟨W4, hW4⟩ : ∃ W4, W4 = ((((w.alloc (.cells #[.bool false] 4)).alloc (.cells #[.string s] 9)).alloc (.cells #[.string ⟨#[47]⟩] 9)).alloc (.cells #[.int .i64 0] 3)) := ⟨_, rfl⟩
    have hf : W4.heap.size = w.heap.size + 1 + 1 + 1 + 1 ∧ Below w.heap.size w W4 ∧ W4.heap[w.heap.size]? = some (.cells #[.bool false] 4) ∧ W4.heap[w.heap.size + 1]? = some (.cells #[.string s] 9) ∧
        W4.heap[w.heap.size + 1 + 1]? = some (.cells #[.string ⟨#[47]⟩] 9) ∧ W4.heap[w.heap.size + 1 + 1 + 1]? = some (.cells #[.int .i64 0] 3) := by
      rw [hW4]
      exact ⟨hsize _ (hsize _ (hsize _ (hsize _ rfl))), ((((Below.refl _ w).alloc (Nat.le_refl _) _).alloc (by simp) _).alloc (by simp; omega) _).alloc (by simp; omega) _, hkeep _ (hkeep _ (hkeep _ (hnew _ rfl))), hkeep _ (hkeep _ (hnew _ (hsize _ rfl))),
        hkeep _ (hnew _ (hsize _ (hsize _ rfl))), hnew _ (hsize _ (hsize _ (hsize _ rfl)))⟩
    rw [← hW4]
    clear hW4
    obtain ⟨hs4, hb4, q0, q1, q2, q3⟩ := hf
    refine wpIn_range_tw rfl (by omega) (gf := 196) (lb := #[.pointer (some ⟨w.heap.size + 1 + 1, 0, none⟩), .pointer (some ⟨w.heap.size + 1, 0, none⟩), .pointer (some ⟨w.heap.size + 1 + 1 + 1, 0, none⟩)]) rfl trivial (enters_of Tryz.func196 (by kernel_rfl) rfl)
      (split_stops 8 (by omega) (w.heap.size + 1 + 1) (w.heap.size + 1) (w.heap.size + 1 + 1 + 1) (w.heap.size + 1 + 1 + 1 + 1) s W4 (hcell q2 rfl) (hcell q1 rfl) (hcell q3 rfl) (hfree q1 0) (by omega) (by omega) (by omega)) (Below.refl _ _) (fun _ => rfl)
      (by rintro A C ⟨v, rfl⟩ k o hk ho; exact (KeepsOthers.setCell A _ v).same k o hk ho) belowK_t
      (fun W l o o' h1 h2 _ => (Below.refl _ W).grown (grownBy_putObj' W l o') (by have := (Array.getElem?_eq_some_iff.1 h2).1; omega) (fun k e => by cases e; omega))
      (fun pre W => pre.all stepF = true ∧ (Below w.heap.size w W ∧ W4.heap.size ≤ W.heap.size) ∧ W.heap[w.heap.size]? = some (.cells #[.bool false] 4))
      (fun pre W => pre.all stepF = false ∧ Below w.heap.size w W ∧ W.heap[w.heap.size]? = some (.cells #[.bool false] 4))
      (fun s A C row h hg hr => ⟨h.1, ⟨h.2.1.1.grown hg h.2.1.1.size (fun k e => by have := (hr k e).1; omega), Nat.le_trans h.2.1.2 hg.size⟩, (hg.block _ (Array.getElem?_eq_some_iff.1 h.2.2).1 (fun e => by have := (hr _ e.symm).1; omega)).trans h.2.2⟩)
      (fun s A C row h hg hr => ⟨h.1, h.2.1.grown hg h.2.1.size (fun k e => by have := (hr k e).1; omega), (hg.block _ (Array.getElem?_eq_some_iff.1 h.2.2).1 (fun e => by have := (hr _ e.symm).1; omega)).trans h.2.2⟩)
      (by rintro s A C ⟨h1, h2, h3⟩ ⟨v, rfl⟩; exact ⟨h1, ⟨h2.1.setCell (p := ⟨w.heap.size + 1, 0, none⟩) (Nat.le_succ _) v, by simpa using h2.2⟩, (Go.Deep.blk_setCell_other _ _ _ _ (by simp)).trans h3⟩)
      (by rintro s A C ⟨h1, h2, h3⟩ ⟨v, rfl⟩; exact ⟨h1, h2.setCell (p := ⟨w.heap.size + 1, 0, none⟩) (Nat.le_succ _) v, (Go.Deep.blk_setCell_other _ _ _ _ (by simp)).trans h3⟩)
      ⟨rfl, ⟨hb4, Nat.le_refl _⟩, q0⟩
      (fun x => { tmps := #[.string s, undef, .pointer (some ⟨w.heap.size, 0, none⟩), .string x, .string s, .int .i64 s.size, .bool false, .string s, .func (.func 196) #[] #[.pointer (some ⟨w.heap.size + 1 + 1, 0, none⟩), .pointer (some ⟨w.heap.size + 1, 0, none⟩), .pointer (some ⟨w.heap.size + 1 + 1 + 1, 0, none⟩)], .string x, undef, undef, undef], defers := [] }) ?assign ?body ?done ?stop
    case assign =>
      intro l x W K hK
      gi_wp2
      exact hK
    case body =>
      rintro l pre x W ⟨h1, ⟨h2, hws⟩, h3⟩ _
      have hc := path_step_any x W
      have h9 : 1 ≤ 9 - 1 - 1 := by omega
      have hsn : (pre ++ [x]).all stepF = stepF x := by rw [List.all_append, h1]; simp
      have hko : ∀ W2, Below W.heap.size W W2 → KeepsOthers W W2 := fun W2 hb => ⟨hb.size, fun k o hk _ => (hb.block k (Array.getElem?_eq_some_iff.1 hk).1).trans hk⟩
      have hlt := (Array.getElem?_eq_some_iff.1 h3).1
      cases hx : stepF x with
      | true =>
        rw [hx] at hc hsn
        replace hx := Lib.hid hx
        replace hsn := Lib.hid hsn
        gi_wp2_with (refine ⟨trivial, ?_⟩; gi_at_call 107; refine (CallsIn.inRound l (callsIn_wide.2 hc)).mono ?_; rintro e W2 ⟨rfl, hb⟩)
        exact ⟨hko _ hb, hb.mono (by omega), hsn.out, ⟨h2.trans (hb.mono h2.size), Nat.le_trans hws hb.size⟩, (hb.block _ hlt).trans h3⟩
      | false =>
        rw [hx] at hc hsn
        replace hx := Lib.hid hx
        replace hsn := Lib.hid hsn
        gi_wp2_with (refine ⟨trivial, ?_⟩; gi_at_call 107; refine (CallsIn.inRound l (callsIn_wide.2 hc)).mono ?_; rintro e W2 ⟨rfl, hb⟩; have d3 := (hb.block _ hlt).trans h3; have dc := hcell d3 (o := 0) rfl; have dz := hfree d3 0)
        exact ⟨(hko _ hb).trans (KeepsOthers.setCell _ _ _), hsn.out, (h2.trans (hb.mono h2.size)).setCell (p := ⟨w.heap.size, 0, none⟩) (Nat.le_refl _) _, hset d3 _⟩
    case done =>
      rintro D xs W hD rfl ⟨h1, ⟨h2, hws⟩, h3⟩ hK
      have hc := hcell h3 (o := 0) rfl
      have hz := hfree h3 0
      have hm : Hid (mayP s = true) := by unfold Hid mayP; rw [decide_eq_true (by omega), h1]; rfl
      have hlt := (Array.getElem?_eq_some_iff.1 h3).1
      clear h1
      gi_wp2
      have hK2 := (KeepsOthers.setCell W ⟨w.heap.size, 0, none⟩ (.bool true)).same D _ hK rfl
      refine ⟨by simp, .inl ⟨_, _, rfl, run_takeDeferred hK2, ?_⟩⟩
      have h4 := (World.putObj_heap_other (o := .deferred none) (show w.heap.size ≠ D by omega)).trans (hset h3 (.bool true) (o := 0))
      have h5 := hcell h4 (o := 0) rfl
      exact ⟨.bool true, by simp [results, Tryz.results66, go_sem, h5], ret_bool hm.out.symm, (h2.setCell (p := ⟨w.heap.size, 0, none⟩) (Nat.le_refl _) _).trans (belowK_b (w := w) (Nat.le_refl _) _ D _ _ (by omega) hK2 rfl rfl)⟩
    case stop =>
      rintro D pre W hD ⟨r, hr⟩ ⟨h1, h2, h3⟩ hK
      have hc := hcell h3 (o := 0) rfl
      have hm : Hid (mayP s = false) := by unfold Hid mayP; rw [← hr, List.all_append, h1]; simp
      clear h1
      gi_wp2
      refine ⟨by simp, .inl ⟨_, _, rfl, run_takeDeferred hK, ?_⟩⟩
      have h4 := (World.putObj_heap_other (o := .deferred none) (show w.heap.size ≠ D by omega)).trans h3
      have h5 := hcell h4 (o := 0) rfl
      exact ⟨.bool false, by simp [results, Tryz.results66, go_sem, h5], ret_bool hm.out.symm, h2.trans (belowK_b (w := w) (Nat.le_refl _) _ D _ _ (by omega) hK rfl rfl)⟩
end Go.Proofs.YtdhlmhkabckbaaaGreatDoor
