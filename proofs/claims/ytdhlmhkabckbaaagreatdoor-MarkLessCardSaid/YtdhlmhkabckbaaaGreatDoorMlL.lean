/-
  MarkLess: what snapshots need with one of them less (the plain law); what a root needs is small.
-/
import Derived.Test.YtdhlmhkabckbaaaGreatDoorNeedA
import Derived.Test.YtdhlmhkabckbaaaGreatDoorWkE
import Derived.Test.YtdhlmhkabckbaaaGreatDoorSnapP
import Derived.Test.YtdhlmhkabckbaaaGreatDoorStrs
import Derived.Test.YtdhlmhkabckbaaaGreatDoorHasA
import Derived.Test.YtdhlmhkabckbaaaGreatDoorMarkF
import Derived.Test.YtdhlmhkabckbaaaGreatDoorCutRow
import Derived.Test.YtdhlmhkabckbaaaGreatDoorUint
import Derived.Test.YtdhlmhkabckbaaaGreatDoorStA
namespace Go.Proofs.YtdhlmhkabckbaaaGreatDoor
open Go.RowKit

theorem needGo_ok (NF : ByteArray → List ByteArray × Int) : ∀ (l : List Snap) (acc : List ByteArray), (∀ s ∈ l, (NF s.root).2 = 0) → needGo NF l acc = (setS (acc ++ l.flatMap fun s => (NF s.root).1), 0)
  | [], acc, _ => by simp [needGo]
  | s :: r, acc, h => by
    rw [needGo, if_pos (h s (by simp)), needGo_ok NF r _ (fun x hx => h x (by simp [hx])), List.flatMap_cons, List.append_assoc]
theorem needGo_all (NF : ByteArray → List ByteArray × Int) : ∀ (l : List Snap) (acc : List ByteArray), (needGo NF l acc).2 = 0 → ∀ s ∈ l, (NF s.root).2 = 0
  | [], _, _, s, hs => by simp at hs
  | x :: r, acc, h, s, hs => by
    unfold needGo at h
    split at h
    · rename_i h0
      rcases List.mem_cons.1 hs with rfl | hs
      · exact h0
      · exact needGo_all NF r _ h s hs
    · rename_i h0
      exact absurd h h0
theorem needGo_none (NF : ByteArray → List ByteArray × Int) : ∀ (l : List Snap) (acc : List ByteArray), (needGo NF l acc).2 ≠ 0 → (needGo NF l acc).1 = []
  | [], acc, h => by simp [needGo] at h
  | x :: r, acc, h => by
    unfold needGo at h ⊢
    split at h
    · rename_i h0
      rw [if_pos h0]
      exact needGo_none NF r _ h
    · rename_i h0
      rw [if_neg h0]
theorem needs_none (NF : ByteArray → List ByteArray × Int) (l : List Snap) (h : (needsRes NF l).2 ≠ 0) : (needsRes NF l).1 = [] := by
  unfold needsRes at h ⊢
  split at h
  · rename_i hm
    rw [if_pos hm]
    exact needGo_none NF l [] h
  · rename_i hm
    rw [if_neg hm]
/-- With a snapshot less nothing more is needed. -/
theorem less_law (NF : ByteArray → List ByteArray × Int) (l : List Snap) (k : Nat) (h : (needsRes NF l).2 = 0) :
    (needsRes NF (l.take k ++ l.drop (k + 1))).2 = 0 ∧ RiseS (needsRes NF (l.take k ++ l.drop (k + 1))).1 ∧ ∀ x ∈ (needsRes NF (l.take k ++ l.drop (k + 1))).1, x ∈ (needsRes NF l).1 := by
  have hm : mayL l = true := by
    unfold needsRes at h
    split at h
    · assumption
    · cases h
  have hsub : (l.take k ++ l.drop (k + 1)).Sublist l := by
    conv => rhs; rw [← List.take_append_drop k l]
    exact List.Sublist.append (List.Sublist.refl _) (by rw [← List.drop_drop]; exact List.drop_sublist _ _)
  have hm' := mayL_sub hsub hm
  unfold needsRes at h ⊢
  rw [if_pos hm] at h ⊢
  rw [if_pos hm']
  have ha := needGo_all NF l [] h
  rw [needGo_ok NF l [] ha, needGo_ok NF _ [] (fun s hs => ha s (hsub.subset hs))]
  refine ⟨rfl, setS_rise _, fun x hx => ?_⟩
  rw [setS_mem] at hx ⊢
  simp only [List.nil_append, List.mem_flatMap] at hx ⊢
  obtain ⟨s, hs, hx⟩ := hx
  exact ⟨s, hsub.subset hs, hx⟩

/-! What a root needs is small. -/
theorem entsF_size (D : ByteArray → ByteArray → DSt → Int × DSt) (C : ByteArray → Option ByteArray) (whole : Bool) (ahead : ByteArray) (hD : ∀ d a s, d.size ≤ 32 → (∀ y ∈ s.needs, y.size ≤ 32) → (D d a s).1 = 0 → ∀ y ∈ (D d a s).2.needs, y.size ≤ 32) :
    ∀ (l : List Ent) (s : DSt), (∀ x ∈ l, ∀ c ∈ x.chunks, c.size = 32) → (∀ y ∈ s.needs, y.size ≤ 32) → (entsF D C whole ahead l s).1 = 0 → ∀ y ∈ (entsF D C whole ahead l s).2.needs, y.size ≤ 32
  | [], s, _, hs, _ => by simpa [entsF] using hs
  | x :: r, s, hl, hs, h => by
    have hr : ∀ y ∈ r, ∀ c ∈ y.chunks, c.size = 32 := fun y hy => hl y (by simp [hy])
    have hc : ∀ y ∈ s.needs ++ x.chunks, y.size ≤ 32 := fun y hy => by
      rcases List.mem_append.1 hy with hy | hy
      · exact hs y hy
      · exact Nat.le_of_eq (hl x (by simp) y hy)
    unfold entsF at h ⊢
    split at h
    · rename_i hd
      rw [if_pos hd]
      dsimp only at h ⊢
      split at h
      · rename_i hq
        rw [if_pos hq]
        refine entsF_size D C whole ahead hD r _ hr (hD _ _ ⟨s.left, s.needs, s.out ++ [⟨ahead ++ x.name, true, ⟨#[]⟩⟩]⟩ ?_ hs hq) h
        match hx : x.chunks with
        | [] => simp [ByteArray.size]
        | c :: _ => exact Nat.le_of_eq (hl x (by simp) c (by rw [hx]; simp))
      · rename_i hq
        exact absurd h hq
    · rename_i hd
      rw [if_neg hd]
      split at h
      · rename_i hw
        rw [if_pos hw]
        dsimp only at h ⊢
        split at h
        · rename_i hq
          rw [if_pos hq]
          exact entsF_size D C whole ahead hD r ⟨s.left, s.needs ++ x.chunks, s.out ++ [⟨ahead ++ x.name, false, (findAll C x.size x.chunks ⟨#[]⟩).2⟩]⟩ hr hc h
        · rename_i hq
          exact absurd h hq
      · rename_i hw
        rw [if_neg hw]
        exact entsF_size D C whole ahead hD r ⟨s.left, s.needs ++ x.chunks, s.out⟩ hr hc h
theorem dirF_size (R : ByteArray → List Ent × Int) (C : ByteArray → Option ByteArray) (whole : Bool) (hR : ∀ b, ∀ x ∈ (R b).1, ∀ c ∈ x.chunks, c.size = 32) :
    ∀ (f : Nat) (d ahead : ByteArray) (s : DSt), d.size ≤ 32 → (∀ y ∈ s.needs, y.size ≤ 32) → (dirF R C whole f d ahead s).1 = 0 → ∀ y ∈ (dirF R C whole f d ahead s).2.needs, y.size ≤ 32
  | 0, d, ahead, s, _, _, h => by simp [dirF] at h
  | f + 1, d, ahead, s, hd, hs, h => by
    unfold dirF at h ⊢
    cases hc : C d with
    | none => rw [hc] at h; simp at h
    | some b =>
      rw [hc] at h
      dsimp only at h ⊢
      split at h
      · rename_i h2
        rw [if_pos h2]
        split at h
        · simp at h
        · rename_i h3
          rw [if_neg h3]
          refine entsF_size _ C whole ahead (fun d a s h1 h2 h3 => dirF_size R C whole hR f d a s h1 h2 h3) (R b).1 ⟨s.left - (R b).1.length, s.needs ++ [d], s.out⟩ (hR b) (fun y hy => ?_) h
          rcases List.mem_append.1 hy with hy | hy
          · exact hs y hy
          · rw [List.mem_singleton.1 hy]; exact hd
      · simp at h
theorem NFd_small (d : List Txt) (root : ByteArray) : (NFd d root).1.length ≤ 18000000 ∧ ∀ x ∈ (NFd d root).1, x.size ≤ maxLen := by
  unfold NFd
  split
  · rename_i hr
    split
    · rename_i h0
      unfold readF at h0 ⊢
      have hg := dirF_goes rdM (chunksF d) false (fun b x hx => entMay_few (rdNode_may x hx)) 300 root ⟨#[]⟩ ⟨256, [], []⟩ (by decide) h0
      have hs := dirF_size rdM (chunksF d) false (fun b x hx => entMay_chunk (rdNode_may x hx)) 300 root ⟨#[]⟩ ⟨256, [], []⟩ (by omega) (by simp) h0
      obtain ⟨g1, g2, g3, g4⟩ := hg
      dsimp only
      refine ⟨Nat.le_trans (setS_len _) ?_, fun x hx => ?_⟩
      · simp only [List.length_nil] at g3
        omega
      · have := hs x ((setS_mem _ _).1 hx)
        simp only [maxLen]
        omega
    · simp
  · simp
end Go.Proofs.YtdhlmhkabckbaaaGreatDoor
/-
  strongboxlaw24.many: are chunks more than a statement goes over?
-/
namespace Go.Proofs.YtdhlmhkabckbaaaGreatDoor
open Go.RowKit

def manyGo : List ByteArray → Nat → Bool
  | [], _ => false
  | s :: r, n => if 20000 < s.size then true else if 60000 < n + 100 + s.size then true else manyGo r (n + 100 + s.size)
theorem manyGo_no : ∀ {l : List ByteArray} {n : Nat}, manyGo l n = false → (∀ s ∈ l, s.size ≤ 20000) ∧ (n ≤ 60000 → n + 100 * l.length ≤ 60000)
  | [], n, _ => ⟨by simp, by simp⟩
  | s :: r, n, h => by
    unfold manyGo at h
    split at h
    · cases h
    · split at h
      · cases h
      · obtain ⟨h1, h2⟩ := manyGo_no h
        refine ⟨fun x hx => ?_, fun _ => ?_⟩
        · rcases List.mem_cons.1 hx with rfl | hx
          · omega
          · exact h1 x hx
        · have := h2 (by omega)
          simp only [List.length_cons]
          omega

set_option maxRecDepth 100000 in
theorem law24_many (A : Option Addr) (m c B : Nat) (l : List ByteArray) (w : World) (h : StrsAt w B A m l) : Calls Tryz.prog 10 #[.slice A m c] w fun e w' => e = .returned (.bool (manyGo l 0)) ∧ w' = w := by
  have hl := Lib.hid h.1
  have hm := h.2.1
  go_enter Tryz.func10, Tryz.ntmps10
  go_wp2_with fail
  go_loopw [3, 4] (fun n ti wr => ∃ (k a : Nat), k ≤ m ∧ ti = .int .i64 k ∧ n = .int .i64 a ∧ a ≤ 60000 ∧ Hid (manyGo l 0 = manyGo (l.drop k) a) ∧ wr = w) (fun _ ti _ => m - (intOf ti).toNat)
  case atStart => exact ⟨0, 0, Nat.zero_le _, rfl, rfl, by omega, rfl, rfl⟩
  case round =>
    obtain ⟨k, a, hk, rfl, rfl, ha, hgo, rfl⟩ := hrel
    by_cases hlt : k < m
    · obtain ⟨b, off, s, rfl, hb, hx, q0⟩ := h.str hlt
      have hd : Hid (manyGo (l.drop k) a = if 20000 < s.size then true else if 60000 < a + 100 + s.size then true else manyGo (l.drop (k + 1)) (a + 100 + s.size)) := by unfold Hid; rw [drop_cons hx]; rfl
      have hi1 : (k : Int) < (m : Int) := by omega
      clear hx
      by_cases h1 : 20000 < s.size
      · rw [if_pos h1] at hd
        have h1' : (20000 : Int) < (s.size : Int) := by omega
        go_wp2_with fail
        go_ret
        exact ⟨ret_bool (by rw [hgo.out, hd.out]), rfl⟩
      · rw [if_neg h1] at hd
        have h1' : ¬ (20000 : Int) < (s.size : Int) := by omega
        by_cases h2 : 60000 < a + 100 + s.size
        · rw [if_pos h2] at hd
          have h2' : (60000 : Int) < (a : Int) + 100 + (s.size : Int) := by omega
          go_wp2_with fail
          go_ret
          exact ⟨ret_bool (by rw [hgo.out, hd.out]), rfl⟩
        · rw [if_neg h2] at hd
          have h2' : ¬ (60000 : Int) < (a : Int) + 100 + (s.size : Int) := by omega
          go_wp2_with fail
          go_roundw
          case rel => exact ⟨k + 1, a + 100 + s.size, by omega, by go_num, by simp, by omega, by rw [Hid, hgo.out, hd.out], trivial⟩
          case measure => simp [intOf]; omega
    · obtain rfl : k = m := by omega
      have hd : Hid (manyGo (l.drop k) a = false) := by unfold Hid; rw [List.drop_eq_nil_of_le (by rw [hl.out]; exact Nat.le_refl _)]; rfl
      go_wp2_with fail
      go_ret
      exact ⟨ret_bool (by rw [hgo.out, hd.out]), rfl⟩
end Go.Proofs.YtdhlmhkabckbaaaGreatDoor

/-
  The walk of MarkLess.
-/
namespace Go.Proofs.YtdhlmhkabckbaaaGreatDoor
open Go.RowKit

/-- Chunks that are small are texts. -/
theorem txts_of : ∀ (l : List ByteArray), (∀ s ∈ l, s.size ≤ 20000) → ∃ d : List Txt, d.map Subtype.val = l
  | [], _ => ⟨[], rfl⟩
  | s :: r, h => by
    obtain ⟨d, hd⟩ := txts_of r (fun x hx => h x (by simp [hx]))
    exact ⟨⟨s, by have := h s (by simp); omega⟩ :: d, by simp [hd]⟩
theorem rise_at {l : List ByteArray} (h : RiseS l) {j : Nat} {a b : ByteArray} (ha : l[j]? = some a) (hb : l[j + 1]? = some b) : sLt a b = true := by
  obtain ⟨h1, rfl⟩ := List.getElem?_eq_some_iff.1 ha
  obtain ⟨h2, rfl⟩ := List.getElem?_eq_some_iff.1 hb
  exact List.pairwise_iff_getElem.1 h j (j + 1) h1 h2 (by omega)

set_option maxHeartbeats 1000000 in
set_option maxRecDepth 100000 in
theorem markLess_walk (A : Option Addr) (n c : Nat) (l : List Snap) (A' : Option Addr) (m c' : Nat) (chunks : List ByteArray) (at_ : Int) (w : World) (h : SnapsAt w w.heap.size A n l) (hnc : n ≤ c) (hC : StrsAt w w.heap.size A' m chunks)
    (hat : -9223372036854775808 ≤ at_ ∧ at_ ≤ 9223372036854775807) :
    Calls Tryz.prog 3 #[.slice A n c, .slice A' m c', .int .i64 at_] w fun e w' => e = .returned (.bool true) ∧ Below w.heap.size w w' := by
  have hln := Lib.hid h.1
  by_cases h40 : 40 < n
  · have h1 : (40 : Int) < (n : Int) := by omega
    clear h hC
    go_enter Tryz.func3, Tryz.ntmps3
    go_wp2_with fail
    refine (law24_awake _).mono ?_
    rintro e w1 ⟨rfl, hb1⟩
    go_wp2_with fail
    go_ret
    exact ⟨rfl, hb1⟩
  have h1 : ¬ (40 : Int) < (n : Int) := by omega
  have hmy := law24_many A' m c' w.heap.size chunks w hC
  cases hmm : manyGo chunks 0 with
  | true =>
    rw [hmm] at hmy
    replace hmm := Lib.hid hmm
    replace h := Lib.hid h
    go_enter Tryz.func3, Tryz.ntmps3
    go_wp2_with fail
    refine hmy.mono ?_
    rintro e w1 ⟨rfl, hw⟩
    obtain rfl := hw.symm
    go_wp2_with fail
    refine (law24_awake _).mono ?_
    rintro e w1 ⟨rfl, hb1⟩
    go_wp2_with fail
    go_ret
    exact ⟨rfl, hb1⟩
  | false =>
    rw [hmm] at hmy
    obtain ⟨hm1, hm2⟩ := manyGo_no hmm
    obtain ⟨d, rfl⟩ := txts_of chunks hm1
    have hm6 : m ≤ 1000000 := by have := hC.1; have := hm2 (by omega); omega
    have hN := fun (B : Option Addr) (q cq : Nat) (L : List Snap) (W : World) (hL : SnapsAt W W.heap.size B q L) (hW : StrsAt W W.heap.size A' m (d.map Subtype.val)) =>
      mark_Needs (NFd d) B A' q cq m c' L W hL (fun _ s _ => NFd_small d s.root) (fun _ s _ W' hb => walk_Needs d A' m c' s.root W' (hW.to hb) hm6)
    replace hmm := Lib.hid hmm
    clear hm1 hm2 hm6
    have hlaw := less_law (NFd d) l
    have hnone := needs_none (NFd d) l
    have hres0 : n = 0 → (needsRes (NFd d) l).1 = [] := fun h0 => by
      have : l = [] := List.length_eq_zero_iff.1 (by rw [hln.out]; exact h0)
      subst this
      unfold needsRes
      split <;> rfl
    obtain ⟨a, z, hz⟩ : ∃ a z, needsRes (NFd d) l = (a, z) := ⟨_, _, rfl⟩
    have hN0 := fun W => hN A n c l W
    rw [hz] at hlaw hnone hres0 hN0
    dsimp only at hlaw hnone hres0 hN0
    replace hz := Lib.hid hz
    have hst := Lib.hid h
    have hct := Lib.hid hC
    replace hN := Lib.hid hN
    replace hN0 := Lib.hid hN0
    replace hlaw := Lib.hid hlaw
    replace hnone := Lib.hid hnone
    replace hres0 := Lib.hid hres0
    clear h hC
    go_enter Tryz.func3, Tryz.ntmps3
    go_wp2_with fail
    refine hmy.mono ?_
    rintro e w1 ⟨rfl, hw⟩
    obtain rfl := hw.symm
    clear hmy
    go_wp2_with fail
    refine (law24_awake _).mono ?_
    rintro e w1 ⟨rfl, hb1⟩
    go_wp2_with fail
    refine (hN0.out w1 (hst.out.to hb1) (hct.out.to hb1)).mono ?_
    rintro e w2 ⟨v, rfl, hov, hb2⟩
    have hbw : Below w.heap.size w w2 := hb1.trans (hb2.mono hb1.size)
    obtain ⟨Av, cv, rfl⟩ := Owns.form hov
    by_cases hz0 : z = 0
    · subst hz0
      rcases Nat.eq_zero_or_pos n with hn0 | hn0
      · subst hn0
        have ha0 := hres0.out rfl
        subst ha0
        go_wp2_with fail
        go_ret
        exact ⟨rfl, hbw⟩
      · have hn1 : ((n : Int) == 0) = false := by simpa using (by omega : (n : Int) ≠ 0)
        have hn2 : (n : Int) ≠ 0 := by omega
        obtain ⟨u, q, hq, hw1, hw2, hw3, hw4, hw5⟩ := uint_vals at_ (m := n) hn0 (by omega) hat
        go_upto_region 7 with fail
        obtain ⟨b, off, rfl, -, -⟩ := hst.out.2.2 hn0
        have hnq : q ≤ n := by omega
        have hrow := Lib.hid fun (W : World) (hb : Below w2.heap.size w2 W) => hst.out.to (hbw.trans (hb.mono hbw.size))
        have hctw := Lib.hid fun (W : World) (hb : Below w2.heap.size w2 W) => hct.out.to (hbw.trans (hb.mono hbw.size))
        have hovw := Lib.hid fun (W : World) (hb : Below w2.heap.size w2 W) => (Owns.below hov hb).row strCell_len
        clear hw1 hw2 hw3 hw4 hw5 hb2 hb1 hov
        have hqc : q ≤ c := by omega
        have hq1 : q + 1 ≤ n := hq
        have hwq : Hid (IntKind.i64.wrap ((q : Int) + 1) = (q : Int) + 1) := by unfold Hid; rw [IntKind.wrap_i64]; omega
        have hq0 : (0 : Int) ≤ (q : Int) + 1 := by omega
        have hq2 : (q : Int) + 1 ≤ (n : Int) := by omega
        refine region_krip (fun W : World => Below w2.heap.size w2 W) (by kernel_rfl) ((Below.refl _ _).drew) ?_
        (refine kF.takeL (i := 1) (v := ?_) rfl (by kernel_rfl) (fun _ _ _ h => h) (Or.inl ⟨by rfl, ?_⟩) ?_
         rotate_left
         · (intro wS hSw; (try dsimp only at hSw); have hcS := fun b o (h : b < w2.heap.size) => hSw.cell (p := ⟨b, o, none⟩) h; go_simp; (try with_reducible rfl))
         try simp only [Act.put, List.setIfInBounds_toArray, List.set_cons_zero, List.set_cons_succ])
        (refine kF.takeL (i := 2) (v := ?_) rfl (by kernel_rfl) (fun _ _ _ h => h) (Or.inl ⟨by rfl, ?_⟩) ?_
         rotate_left
         · (intro wS hSw; (try dsimp only at hSw); have hcS := fun b o (h : b < w2.heap.size) => hSw.cell (p := ⟨b, o, none⟩) h; go_simp; (try with_reducible rfl))
         try simp only [Act.put, List.setIfInBounds_toArray, List.set_cons_zero, List.set_cons_succ])
        (refine kF.takeL (i := 3) (v := ?_) rfl (by kernel_rfl) (fun _ _ _ h => h) (Or.inl ⟨by rfl, ?_⟩) ?_
         rotate_left
         · (intro wS hSw; (try dsimp only at hSw); have hcS := fun b o (h : b < w2.heap.size) => hSw.cell (p := ⟨b, o, none⟩) h; go_simp; (try with_reducible rfl))
         try simp only [Act.put, List.setIfInBounds_toArray, List.set_cons_zero, List.set_cons_succ])
        (refine kF.takeL (i := 5) (v := ?_) rfl (by kernel_rfl) (fun _ _ _ h => h) (Or.inl ⟨by rfl, ?_⟩) ?_
         rotate_left
         · (intro wS hSw; (try dsimp only at hSw); have hcS := fun b o (h : b < w2.heap.size) => hSw.cell (p := ⟨b, o, none⟩) h; go_simp; (try with_reducible rfl))
         try simp only [Act.put, List.setIfInBounds_toArray, List.set_cons_zero, List.set_cons_succ])
        (refine kF.takeL (i := 6) (v := ?_) rfl (by kernel_rfl) (fun _ _ _ h => h) (Or.inl ⟨by rfl, ?_⟩) ?_
         rotate_left
         · (intro wS hSw; (try dsimp only at hSw); have hcS := fun b o (h : b < w2.heap.size) => hSw.cell (p := ⟨b, o, none⟩) h; go_simp; (try with_reducible rfl))
         try simp only [Act.put, List.setIfInBounds_toArray, List.set_cons_zero, List.set_cons_succ])
        (refine kF.takeL (i := 7) (v := (.int .i64 ((q : Int) + 1))) rfl (by kernel_rfl) (fun _ _ _ h => h) (Or.inl ⟨by rfl, ?_⟩) ?_
         · (intro wS hSw; (try dsimp only at hSw); have hcS := fun b o (h : b < w2.heap.size) => hSw.cell (p := ⟨b, o, none⟩) h; go_simp; (first | done | rw [hwq.out]))
         try simp only [Act.put, List.setIfInBounds_toArray, List.set_cons_zero, List.set_cons_succ])
        (refine kF.takeL (i := 8) (v := ?_) rfl (by kernel_rfl) (fun _ _ _ h => h) (Or.inl ⟨by rfl, ?_⟩) ?_
         rotate_left
         · (intro wS hSw; (try dsimp only at hSw); have hcS := fun b o (h : b < w2.heap.size) => hSw.cell (p := ⟨b, o, none⟩) h; go_simp; (try with_reducible rfl))
         try simp only [Act.put, List.setIfInBounds_toArray, List.set_cons_zero, List.set_cons_succ])
        generalize hAA : (if c = q + 1 then (some (⟨b, off, none⟩ : Addr)) else some ⟨b, off + (q + 1) * 3, none⟩) = AA
        replace hAA := Lib.hid hAA
        (refine kF.takeL (i := 10) (v := ?_) rfl (by kernel_rfl) (fun _ _ _ h => h) (Or.inl ⟨by rfl, ?_⟩) ?_
         rotate_left
         · (intro wS hSw; (try dsimp only at hSw); have hcS := fun b o (h : b < w2.heap.size) => hSw.cell (p := ⟨b, o, none⟩) h; go_simp; (try with_reducible rfl))
         try simp only [Act.put, List.setIfInBounds_toArray, List.set_cons_zero, List.set_cons_succ])
        (refine kF.newL (i := 0) (fun b => .slice (some ⟨b, 0, none⟩) 0 0) (.cells #[] 63) rfl (by kernel_rfl) (by rfl) ?_ ?_
         · (intro wS; go_simp; (try with_reducible rfl)))
        (refine kF.settleL (by kernel_rfl) (fun _ _ _ _ _ => Iff.rfl) (fun _ _ h1 h2 => below_S (Nat.le_refl _) h1 h2) (fun u0 hbu0 hSu0 v hv => ?_)
         obtain ⟨bu0, hBu0, rfl, hxu0⟩ := hv
         try simp only [Act.put, List.setIfInBounds_toArray, List.set_cons_zero, List.set_cons_succ])
        have hlk : (l.take q).length = q := by rw [List.length_take, hln.out]; omega
        have hld : (l.drop (q + 1)).length = n - (q + 1) := by rw [List.length_drop, hln.out]
        have hown0 : snapE.Own u0 w2.heap.size (.slice (some ⟨bu0, 0, none⟩) 0 0) [] := own_empty (k := snapE.k) (enc := snapE.enc) (T := snapE.T) hxu0 hBu0
        (refine kF.lastL (j := 4) rfl (by kernel_rfl) (fun _ _ _ _ _ => Iff.rfl) (fun _ _ h1 h2 => below_S (Nat.le_refl _) h1 h2) (fun hSk K hK => ?_)
         ((apply Elem.step_row snapE (s := .tmp 48) (x := .tmp 51) (base := w2.heap.size) (l := []) (l' := (l.take q)); (case' hgd => rfl); (case' ho => rfl); (case' hs => rfl); (case' hx => rfl); (case' hown => exact (hown0)); (case' hr => exact (((hrow.out u0 hSu0).headRow hnq))); (case' hl => exact (by simp; omega)); (case' hbase => exact Below.size (by assumption))); intro va ma oa ga _)
         refine hK.out _ _ (Below.grownOwn hSk hown0 (Nat.le_refl _) hSk.size ga) ?_
         clear hK K
         try simp only [Act.put, List.setIfInBounds_toArray, List.set_cons_zero, List.set_cons_succ])
        rw [List.nil_append] at oa
        have htl := fun (W : World) (hb : Below w2.heap.size w2 W) => (hrow.out W hb).tailIf (n := q + 1) (c := c) hq1 hnc
        rw [hAA.out] at htl
        clear hSk
        (refine kF.lastL (j := 9) rfl (by kernel_rfl) (fun _ _ _ _ _ => Iff.rfl) (fun _ _ h1 h2 => below_S (Nat.le_refl _) h1 h2) (fun hSk K hK => ?_)
         ((apply Elem.step_row snapE (s := .tmp 52) (x := .tmp 56) (base := w2.heap.size) (l := (l.take q)) (l' := (l.drop (q + 1))); (case' hgd => rfl); (case' ho => rfl); (case' hs => rfl); (case' hx => rfl); (case' hown => exact (oa)); (case' hr => exact ((htl _ hSk))); (case' hl => exact (by omega)); (case' hbase => exact Below.size (by assumption))); intro vb mb ob gb _)
         refine hK.out _ _ (Below.grownOwn hSk oa (Nat.le_refl _) hSk.size gb) ?_
         clear hK K
         try simp only [Act.put, List.setIfInBounds_toArray, List.set_cons_zero, List.set_cons_succ])
        have hSb : Below w2.heap.size w2 mb := Below.grownOwn hSk oa (Nat.le_refl _) hSk.size gb
        obtain ⟨AB, cB, hvb⟩ := Owns.form ob
        obtain ⟨nbb, hnbb⟩ : ∃ x, x = (l.take q ++ l.drop (q + 1)).length := ⟨_, rfl⟩
        rw [← hnbb] at hvb
        subst hvb
        replace hnbb := Lib.hid hnbb
        have hlaw' := hlaw.out q (by trivial)
        obtain ⟨bl, zb, hzb⟩ : ∃ bl zb, needsRes (NFd d) (l.take q ++ l.drop (q + 1)) = (bl, zb) := ⟨_, _, rfl⟩
        have hNb := fun (W : World) hL hW => hN.out AB nbb cB (l.take q ++ l.drop (q + 1)) W hL hW
        rw [hzb] at hlaw' hNb
        dsimp only at hlaw' hNb
        obtain ⟨hz2, hrise, hsub⟩ := hlaw'
        subst hz2
        have hrowb : SnapsAt mb mb.heap.size AB nbb (l.take q ++ l.drop (q + 1)) := Owns.row snapE.len ob
        have hctb := hctw.out mb hSb
        replace hzb := Lib.hid hzb
        replace hrise := Lib.hid hrise
        replace hsub := Lib.hid hsub
        have hcallb := Lib.hid (hNb mb hrowb hctb)
        clear hSk hNb hrowb hctb hN hN0
        (refine kF.lastL (j := 11) rfl (by kernel_rfl) (fun _ _ _ _ _ => Iff.rfl) (fun _ _ h1 h2 => below_S (Nat.le_refl _) h1 h2) (fun hSk K hK => ?_)
         (go_simp; refine hcallb.out.mono ?_; rintro e m6 ⟨v6, rfl, hov6, hb6⟩; obtain ⟨A6, c6, rfl⟩ := Owns.form hov6)
         refine hK.out _ _ (below_S (Nat.le_refl _) hSk hb6) ?_
         clear hK K
         try simp only [Act.put, List.setIfInBounds_toArray, List.set_cons_zero, List.set_cons_succ])
        (refine kF.takeL (i := 12) (v := ?_) rfl (by kernel_rfl) (fun _ _ _ h => h) (Or.inl ⟨by rfl, ?_⟩) ?_
         rotate_left
         · (intro wS hSw; (try dsimp only at hSw); have hcS := fun b o (h : b < w2.heap.size) => hSw.cell (p := ⟨b, o, none⟩) h; go_simp; (try with_reducible rfl))
         try simp only [Act.put, List.setIfInBounds_toArray, List.set_cons_zero, List.set_cons_succ])
        (refine kF.takeL (i := 13) (v := ?_) rfl (by kernel_rfl) (fun _ _ _ h => h) (Or.inl ⟨by rfl, ?_⟩) ?_
         rotate_left
         · (intro wS hSw; (try dsimp only at hSw); have hcS := fun b o (h : b < w2.heap.size) => hSw.cell (p := ⟨b, o, none⟩) h; go_simp; (try with_reducible rfl))
         try simp only [Act.put, List.setIfInBounds_toArray, List.set_cons_zero, List.set_cons_succ])
        (refine kF.takeL (i := 14) (v := ?_) rfl (by kernel_rfl) (fun _ _ _ h => h) (Or.inl ⟨by rfl, ?_⟩) ?_
         rotate_left
         · (intro wS hSw; (try dsimp only at hSw); have hcS := fun b o (h : b < w2.heap.size) => hSw.cell (p := ⟨b, o, none⟩) h; go_simp; (try with_reducible rfl))
         try simp only [Act.put, List.setIfInBounds_toArray, List.set_cons_zero, List.set_cons_succ])
        (refine kF.takeL (i := 15) (v := ?_) rfl (by kernel_rfl) (fun _ _ _ h => h) (Or.inl ⟨by rfl, ?_⟩) ?_
         rotate_left
         · (intro wS hSw; (try dsimp only at hSw); have hcS := fun b o (h : b < w2.heap.size) => hSw.cell (p := ⟨b, o, none⟩) h; go_simp; (try with_reducible rfl))
         try simp only [Act.put, List.setIfInBounds_toArray, List.set_cons_zero, List.set_cons_succ])
        (refine kF.takeL (i := 16) (v := ?_) rfl (by kernel_rfl) (fun _ _ _ h => h) (Or.inl ⟨by rfl, ?_⟩) ?_
         rotate_left
         · (intro wS hSw; (try dsimp only at hSw); have hcS := fun b o (h : b < w2.heap.size) => hSw.cell (p := ⟨b, o, none⟩) h; go_simp; (try with_reducible rfl))
         try simp only [Act.put, List.setIfInBounds_toArray, List.set_cons_zero, List.set_cons_succ])
        refine kF.done (by kernel_rfl) ?_
        have hb7 : Below w2.heap.size w2 m6 := hSk.trans (hb6.mono hSk.size)
        have hra := Lib.hid fun (W : World) (hb : Below m6.heap.size m6 W) => (hovw.out W (hb7.trans (hb.mono hb7.size))).more (Nat.le_refl _)
        have hrb := Lib.hid fun (W : World) (hb : Below m6.heap.size m6 W) => (Owns.below hov6 hb).row strCell_len
        clear hSk hb6 hov6 ob gb oa ga hown0 hxu0 hSu0 hbu0
        go_wp2_with fail
        have hbl : bl.length ≤ 9223372036854775807 := (hrb.out m6 (Below.refl _ _)).2.1
        go_loopw [11] (fun ti wr => ∃ j : Nat, j ≤ bl.length ∧ ti = .int .i64 j ∧ Below m6.heap.size m6 wr) (fun ti _ => bl.length - (intOf ti).toNat)
        case atStart => exact ⟨0, Nat.zero_le _, rfl, Below.refl _ _⟩
        case round =>
          obtain ⟨j, hj, rfl, hbj⟩ := hrel
          obtain ⟨wj, rfl⟩ : ∃ x : World, x = wr := ⟨_, rfl⟩
          by_cases hlt : j < bl.length
          · obtain ⟨bb, ob, x, rfl, hbb, hx, q0⟩ := (hrb.out wj hbj).str hlt
            have hin := fun W (hb : Below m6.heap.size m6 W) => law24_in Av a.length cv a x W (hra.out W hb)
            rw [decide_eq_true (hsub.out x (List.mem_of_getElem? hx))] at hin
            have hi1 : (j : Int) < (bl.length : Int) := by omega
            replace hin := Lib.hid hin
            rcases Nat.eq_zero_or_pos j with hj0 | hj0
            · subst hj0
              replace hx := Lib.hid hx
              rw [Nat.add_zero] at q0
              go_upto_region 13 with fail
              go_quiet ((with_reducible exact Calls.quiet_of_same (hin.out _ (below_more hbj _))))
              have hbn : Below m6.heap.size m6 (wj.drewN nq) := below_more hbj nq
              go_wp2_with fail
              go_roundw
              case rel => exact ⟨0 + 1, by omega, by go_num, hbn⟩
              case measure => simp [intOf]; omega
            · obtain ⟨i, rfl⟩ : ∃ i, j = i + 1 := ⟨j - 1, by omega⟩
              obtain ⟨b2, o2, y, e2, hb2, hy, q1⟩ := (hrb.out wj hbj).str (i := i) (by omega)
              cases e2
              have hlt2 := rise_at hrise.out hy hx
              have f1 : Op.bytesLess x.toList y.toList = false := sLt_asymm hlt2
              have f2 : (x.toList == y.toList) = false := str_ne (fun e => sLt_ne hlt2 e.symm)
              have hwi : IntKind.i64.wrap (i : Int) = (i : Int) := by rw [IntKind.wrap_i64]; omega
              have hj1 : (0 : Int) < (i : Int) + 1 := by omega
              have hilt : i < bl.length := by omega
              rw [show (((i + 1 : Nat) : Int)) = (i : Int) + 1 by omega] at hi1 ⊢
              replace hx := Lib.hid hx
              replace hy := Lib.hid hy
              replace hlt2 := Lib.hid hlt2
              go_upto_region 13 with fail
              go_quiet ((with_reducible exact Calls.quiet_of_same (hin.out _ (below_more hbj _))))
              have hbn : Below m6.heap.size m6 (wj.drewN nq) := below_more hbj nq
              clear hwi
              go_wp2_with fail
              go_roundw
              case rel => exact ⟨i + 1 + 1, by omega, by go_num, hbn⟩
              case measure => simp [intOf]; omega
          · obtain rfl : j = bl.length := by omega
            go_wp2_with fail
            go_ret
            exact ⟨rfl, hbw.trans ((hb7.trans (hbj.mono hb7.size)).mono hbw.size)⟩
    · have h2 : (z == 0) = false := by simpa using hz0
      have h3 : (z != 0) = true := by simpa using hz0
      have ha0 := hnone.out hz0
      subst ha0
      replace hz0 := Lib.hid hz0
      go_wp2_with fail
      go_ret
      exact ⟨rfl, hbw⟩
end Go.Proofs.YtdhlmhkabckbaaaGreatDoor
