/-
  A state read back from its bytes: the plain law. No program in sight.
-/
import Derived.Test.YtbfephekkfieaaaMakeA
import Derived.Test.YtbfephekkfieaaaVal
namespace Go.Proofs.Ytbfephekkfieaaa
open Go.RowKit

def rdSnap (p : Pst) : Snap × Pst := (⟨(gt 4 p).1, (gt 8 (gt 4 p).2).1, str (tk 32 (gt 8 (gt 4 p).2).2).1⟩, (tk 32 (gt 8 (gt 4 p).2).2).2)
def rdChunk (p : Pst) : ByteArray × Pst := (str (tk 32 p).1, (tk 32 p).2)
def rdPlace (p : Pst) : Place × Pst := (⟨str (tk 32 p).1, (gt 4 (tk 32 p).2).1, (gt 4 (gt 4 (tk 32 p).2).2).1⟩, (gt 4 (gt 4 (tk 32 p).2).2).2)
def rdSnaps : Nat → Pst → List Snap → List Snap × Pst
  | 0, p, l => (l, p)
  | c + 1, p, l => if p.1 then (l, p) else rdSnaps c (rdSnap p).2 (l ++ [(rdSnap p).1])
def rdChunks : Nat → Pst → List ByteArray → List Place → (List ByteArray × List Place) × Pst
  | 0, p, l, m => ((l, m), p)
  | c + 1, p, l, m => if p.1 then ((l, m), p) else rdChunks c (rdPlace (rdChunk p).2).2 (l ++ [(rdChunk p).1]) (m ++ [(rdPlace (rdChunk p).2).1])
def rdHead (b : List UInt8) : Pst := (decide ((tk 4 (false, b)).1 ≠ [115, 116, 97, 49]), (tk 4 (false, b)).2.2)
def rdK (b : List UInt8) : Int × Pst := gt 1 (rdHead b)
def rdN (b : List UInt8) : Int × Pst := gt 1 (rdK b).2
def rdX (b : List UInt8) : Int × Pst := gt 4 (rdN b).2
def rdC (b : List UInt8) : Int × Pst := gt 1 (rdX b).2
def rdS (b : List UInt8) : List Snap × Pst := rdSnaps (rdC b).1.toNat (rdC b).2 []
def rdD (b : List UInt8) : Int × Pst := gt 2 (rdS b).2
def rdE (b : List UInt8) : (List ByteArray × List Place) × Pst := rdChunks (rdD b).1.toNat (rdD b).2 [] []
def rd (b : List UInt8) : St × Pst := (⟨(rdK b).1, (rdN b).1, (rdX b).1, (rdS b).1, (rdE b).1.1, (rdE b).1.2⟩, (rdE b).2)
def stZero : St := ⟨0, 0, 0, [], [], []⟩
def rdOk (b : List UInt8) : Bool := !(rd b).2.1 && decide ((rd b).2.2.length = 0) && mayState (rd b).1
def readRes (b : List UInt8) : St × Int := if rdOk b then ((rd b).1, 0) else (stZero, 4)

theorem rdSnap_sound {p : Pst} (h : (rdSnap p).2.1 = false) (hm : 0 ≤ (rdSnap p).1.time) : p.1 = false ∧ p.2 = snapB (rdSnap p).1 ++ (rdSnap p).2.2 := by
  unfold rdSnap gt at h hm ⊢
  dsimp only at h hm ⊢
  obtain ⟨h3, e3, l3⟩ := tk_sound h
  obtain ⟨h2, e2, l2⟩ := tk_sound h3
  obtain ⟨h1, e1, l1⟩ := tk_sound h2
  refine ⟨h1, ?_⟩
  unfold snapB
  dsimp only
  rw [be_sval l1 (.inl (by omega)), be_sval l2 (.inr ⟨by omega, hm⟩), bl_str]
  rw [List.append_assoc, List.append_assoc, ← e3, ← e2, ← e1]
theorem rdSnaps_sound : ∀ {c : Nat} {p : Pst} {acc : List Snap}, (rdSnaps c p acc).2.1 = false → (∀ s ∈ (rdSnaps c p acc).1, 0 ≤ s.time) →
    p.1 = false ∧ ∃ l, (rdSnaps c p acc).1 = acc ++ l ∧ l.length = c ∧ p.2 = l.flatMap snapB ++ (rdSnaps c p acc).2.2
  | 0, p, acc, h, _ => ⟨h, [], by simp [rdSnaps], rfl, by simp [rdSnaps]⟩
  | c + 1, p, acc, h, hm => by
    unfold rdSnaps at h hm ⊢
    by_cases hp : p.1 = true
    · rw [if_pos hp] at h
      rw [hp] at h
      cases h
    · rw [if_neg hp] at h hm ⊢
      obtain ⟨h1, l, el, ll, e⟩ := rdSnaps_sound h hm
      have hmem : (rdSnap p).1 ∈ (rdSnaps c (rdSnap p).2 (acc ++ [(rdSnap p).1])).1 := by rw [el]; simp
      obtain ⟨h2, e2⟩ := rdSnap_sound h1 (hm _ hmem)
      refine ⟨h2, (rdSnap p).1 :: l, by rw [el]; simp, by simp [ll], ?_⟩
      rw [e2, e]
      simp
theorem rdChunk_sound {p : Pst} (h : (rdPlace (rdChunk p).2).2.1 = false) : p.1 = false ∧ p.2 = chunkB (rdChunk p).1 (rdPlace (rdChunk p).2).1 ++ (rdPlace (rdChunk p).2).2.2 := by
  unfold rdPlace rdChunk gt at h ⊢
  dsimp only at h ⊢
  obtain ⟨h4, e4, l4⟩ := tk_sound h
  obtain ⟨h3, e3, l3⟩ := tk_sound h4
  obtain ⟨h2, e2, l2⟩ := tk_sound h3
  obtain ⟨h1, e1, l1⟩ := tk_sound h2
  refine ⟨h1, ?_⟩
  unfold chunkB
  dsimp only
  rw [be_sval l3 (.inl (by omega)), be_sval l4 (.inl (by omega)), bl_str, bl_str]
  rw [List.append_assoc, List.append_assoc, List.append_assoc, ← e4, ← e3, ← e2, ← e1]
theorem rdChunks_sound : ∀ {c : Nat} {p : Pst} {a : List ByteArray} {b : List Place}, (rdChunks c p a b).2.1 = false →
    p.1 = false ∧ ∃ l m, (rdChunks c p a b).1 = (a ++ l, b ++ m) ∧ l.length = c ∧ m.length = c ∧ p.2 = zipB l m ++ (rdChunks c p a b).2.2
  | 0, p, a, b, h => ⟨h, [], [], by simp [rdChunks], rfl, rfl, by simp [rdChunks, zipB]⟩
  | c + 1, p, a, b, h => by
    unfold rdChunks at h ⊢
    by_cases hp : p.1 = true
    · rw [if_pos hp] at h
      rw [hp] at h
      cases h
    · rw [if_neg hp] at h ⊢
      obtain ⟨h1, l, m, el, ll, lm, e⟩ := rdChunks_sound h
      obtain ⟨h2, e2⟩ := rdChunk_sound h1
      refine ⟨h2, (rdChunk p).1 :: l, (rdPlace (rdChunk p).2).1 :: m, by rw [el]; simp, by simp [ll], by simp [lm], ?_⟩
      rw [e2, e, zipB]
      simp
theorem app_trans {a l r r' : List UInt8} (h : a = l ++ r) (h' : r = r') : a = l ++ r' := h' ▸ h
theorem rd_fst (b : List UInt8) : (rd b).1 = ⟨(rdK b).1, (rdN b).1, (rdX b).1, (rdS b).1, (rdE b).1.1, (rdE b).1.2⟩ := rfl
theorem rd_snd (b : List UInt8) : (rd b).2 = (rdE b).2 := by
  unfold rd
  dsimp only
theorem readRes_pos {b : List UInt8} (h : rdOk b = true) : readRes b = ((rd b).1, 0) := by
  unfold readRes
  rw [if_pos h]
theorem readRes_neg {b : List UInt8} (h : rdOk b = false) : readRes b = (stZero, 4) := by
  unfold readRes
  rw [if_neg (by rw [h]; simp)]
theorem gt_sound {n : Nat} {p : Pst} (h : (gt n p).2.1 = false) (hn : n ≤ 4) : p.1 = false ∧ p.2 = be (gt n p).1.toNat n ++ (gt n p).2.2 := by
  unfold gt at h ⊢
  dsimp only at h ⊢
  obtain ⟨h1, h2, h3⟩ := tk_sound h
  refine ⟨h1, ?_⟩
  rw [be_sval h3 (.inl hn)]
  exact h2
theorem rd_sound {b : List UInt8} (h : rdOk b = true) : mayState (rd b).1 = true ∧ stB (rd b).1 = b := by
  unfold rdOk at h
  simp only [Bool.and_eq_true, Bool.not_eq_true', decide_eq_true_eq] at h
  obtain ⟨⟨hb, hr⟩, hm⟩ := h
  refine ⟨hm, ?_⟩
  rw [rd_fst] at hm ⊢
  rw [rd_snd] at hb hr
  have hgs := (mayState_good hm).sn
  dsimp only at hgs
  clear hm
  have eE : rdE b = rdChunks (rdD b).1.toNat (rdD b).2 [] [] := by rw [rdE]
  have eD : rdD b = gt 2 (rdS b).2 := by rw [rdD]
  have eS : rdS b = rdSnaps (rdC b).1.toNat (rdC b).2 [] := by rw [rdS]
  have eC : rdC b = gt 1 (rdX b).2 := by rw [rdC]
  have eX : rdX b = gt 4 (rdN b).2 := by rw [rdX]
  have eN : rdN b = gt 1 (rdK b).2 := by rw [rdN]
  have eK : rdK b = gt 1 (rdHead b) := by rw [rdK]
  rw [eE] at hb
  obtain ⟨h6, lc, lp, e6, n6, n6', q6⟩ := rdChunks_sound hb
  rw [← eE] at e6 q6
  rw [eD] at h6
  obtain ⟨h5, q5⟩ := gt_sound h6 (by omega)
  rw [← eD] at q5
  rw [eS] at h5 hgs
  obtain ⟨h4, ls, e4, n4, q4⟩ := rdSnaps_sound h5 (fun s hs => (mayOne_bounds (hgs s hs)).2.2.1)
  rw [← eS] at e4 q4
  rw [eC] at h4
  obtain ⟨h3, q3⟩ := gt_sound h4 (by omega)
  rw [← eC] at q3
  rw [eX] at h3
  obtain ⟨h2, q2⟩ := gt_sound h3 (by omega)
  rw [← eX] at q2
  rw [eN] at h2
  obtain ⟨h1, q1⟩ := gt_sound h2 (by omega)
  rw [← eN] at q1
  rw [eK] at h1
  obtain ⟨h0, q0⟩ := gt_sound h1 (by omega)
  rw [← eK] at q0
  clear eE eD eS eC eX eN eK
  unfold rdHead at h0
  simp only [ne_eq, decide_eq_false_iff_not, Decidable.not_not] at h0
  have hz : (rdE b).2.2 = [] := List.eq_nil_of_length_eq_zero hr
  rw [hz, List.append_nil] at q6
  have hlen : 4 ≤ b.length := by
    rcases Nat.lt_or_ge b.length 4 with h | h
    · unfold tk at h0
      rw [if_neg (by simp; omega)] at h0
      cases h0
    · exact h
  have hh : b = [115, 116, 97, 49] ++ (rdHead b).2 := by
    rw [← h0]
    unfold rdHead tk
    rw [if_pos hlen]
    simp
  have hall := app_trans hh (app_trans q0 (app_trans q1 (app_trans q2 (app_trans q3 (app_trans q4 (app_trans q5 q6))))))
  refine Eq.trans ?_ hall.symm
  unfold stB headB
  dsimp only
  rw [e4, e6]
  simp only [List.nil_append]
  rw [n4, n6]
  simp only [List.append_assoc]
theorem gt_eq {n : Int} {m : Nat} {r : List UInt8} {b : Bool} {p : Pst} (hp : p = (b, be n.toNat m ++ r)) (h0 : 0 ≤ n) (h : n.toNat < 256 ^ m) (h' : n < 9223372036854775808) : gt m p = (n, (b, r)) := by
  rw [hp]
  exact gt_of h0 h h' r b
theorem rdSnap_of {s : Snap} (h : mayOne s = true) (r : List UInt8) : rdSnap (false, snapB s ++ r) = (s, (false, r)) := by
  obtain ⟨h1, h2, h3, h4, h5⟩ := mayOne_bounds h
  unfold rdSnap snapB
  rw [List.append_assoc, List.append_assoc, gt_of (by omega) (by omega) (by omega)]
  dsimp only
  rw [gt_of (by omega) (by omega) (by omega)]
  dsimp only
  rw [tk_of (by rw [bl_len, h5])]
  rfl
theorem rdSnaps_of : ∀ {l acc : List Snap} {r : List UInt8}, (∀ s ∈ l, mayOne s = true) → rdSnaps l.length (false, l.flatMap snapB ++ r) acc = (acc ++ l, (false, r))
  | [], acc, r, _ => by simp [rdSnaps]
  | s :: l, acc, r, h => by
    rw [List.length_cons, rdSnaps, if_neg (by simp), List.flatMap_cons, List.append_assoc, rdSnap_of (h s (by simp))]
    dsimp only
    rw [rdSnaps_of (fun x hx => h x (by simp [hx]))]
    simp
theorem rdChunks_of : ∀ {l a : List ByteArray} {m b : List Place} {r : List UInt8}, l.length = m.length → (∀ c ∈ l, c.size = 32) → (∀ p ∈ m, mayPlace p = true) → rdChunks l.length (false, zipB l m ++ r) a b = ((a ++ l, b ++ m), (false, r))
  | [], a, [], b, r, _, _, _ => by simp [rdChunks, zipB]
  | [], _, _ :: _, _, _, h, _, _ => by simp at h
  | _ :: _, _, [], _, _, h, _, _ => by simp at h
  | c :: l, a, p :: m, b, r, h, h1, h2 => by
    obtain ⟨p1, p2, p3, p4, p5⟩ := mayPlace_bounds (h2 p (by simp))
    have hp := mayPlace_size (h2 p (by simp))
    have e1 : rdChunk (false, zipB (c :: l) (p :: m) ++ r) = (c, (false, bl p.pack ++ (be p.at_.toNat 4 ++ (be p.len.toNat 4 ++ (zipB l m ++ r))))) := by
      unfold rdChunk
      rw [zipB, chunkB, List.append_assoc, List.append_assoc, List.append_assoc, List.append_assoc, tk_of (by rw [bl_len, h1 c (by simp)])]
      rfl
    have e2 : rdPlace (false, bl p.pack ++ (be p.at_.toNat 4 ++ (be p.len.toNat 4 ++ (zipB l m ++ r)))) = (p, (false, zipB l m ++ r)) := by
      unfold rdPlace
      rw [tk_of (by rw [bl_len, hp])]
      dsimp only
      rw [gt_of (by omega) (by omega) (by omega)]
      dsimp only
      rw [gt_of (by omega) (by omega) (by omega)]
      rfl
    rw [List.length_cons, rdChunks, if_neg (by simp), e1]
    dsimp only
    rw [e2]
    dsimp only
    rw [rdChunks_of (by simpa using h) (fun x hx => h1 x (by simp [hx])) (fun x hx => h2 x (by simp [hx]))]
    simp
theorem rd_of {s : St} (h : mayState s = true) (r : List UInt8) : rd (stB s ++ r) = (s, (false, r)) := by
  have hg := mayState_good h
  obtain ⟨k, n, next, sn, cs, ps⟩ := s
  obtain ⟨⟨gk1, gk2, gk3⟩, ⟨gn1, gn2⟩, gl, gs, -, ⟨gc1, gc2⟩, gcs, gps⟩ := hg
  dsimp only at gk1 gk2 gk3 gn1 gn2 gl gs gc1 gc2 gcs gps
  have hh : rdHead (stB ⟨k, n, next, sn, cs, ps⟩ ++ r) = (false, be k.toNat 1 ++ (be n.toNat 1 ++ (be next.toNat 4 ++ (be ((sn.length : Int)).toNat 1 ++ (sn.flatMap snapB ++ (be ((cs.length : Int)).toNat 2 ++ (zipB cs ps ++ r))))))) := by
    unfold rdHead stB headB
    simp only [List.append_assoc]
    rw [tk_of (n := 4) (l := [115, 116, 97, 49]) rfl]
    simp
  generalize stB ⟨k, n, next, sn, cs, ps⟩ ++ r = b at hh ⊢
  have hK : rdK b = (k, _) := gt_eq hh (by omega) (by omega) (by omega)
  have hN : rdN b = (n, _) := gt_eq (congrArg Prod.snd hK) (by omega) (by omega) (by omega)
  have hX : rdX b = (next, _) := gt_eq (congrArg Prod.snd hN) (by omega) (by omega) (by omega)
  have hC : rdC b = ((sn.length : Int), _) := gt_eq (congrArg Prod.snd hX) (by omega) (by omega) (by omega)
  have hS : rdS b = (sn, (false, be ((cs.length : Int)).toNat 2 ++ (zipB cs ps ++ r))) := by
    unfold rdS
    rw [hC]
    dsimp only
    rw [Int.toNat_natCast, rdSnaps_of gs]
    simp
  have hD : rdD b = ((cs.length : Int), _) := gt_eq (congrArg Prod.snd hS) (by omega) (by omega) (by omega)
  have hE : rdE b = ((cs, ps), (false, r)) := by
    unfold rdE
    rw [hD]
    dsimp only
    rw [Int.toNat_natCast, rdChunks_of gc1 gcs gps]
    simp
  unfold rd
  rw [hK, hN, hX, hS, hE]
theorem rd_back {s : St} (h : mayState s = true) : rd (stB s) = (s, (false, [])) := by
  have := rd_of h []
  rwa [List.append_nil] at this
theorem readRes_back {s : St} (h : mayState s = true) : readRes (stB s) = (s, 0) := by
  have : rdOk (stB s) = true := by
    unfold rdOk
    rw [rd_back h, h]
    rfl
  rw [readRes_pos this, rd_back h]
theorem stB_inj {s t : St} (h : mayState s = true) (h' : mayState t = true) (e : stB s = stB t) : s = t := by
  have h1 := rd_back h
  rw [e, rd_back h'] at h1
  exact (congrArg Prod.fst h1).symm
theorem readRes_cases (b : List UInt8) : (∃ s, mayState s = true ∧ stB s = b ∧ readRes b = (s, 0)) ∨ ((∀ s, mayState s = true → stB s ≠ b) ∧ readRes b = (stZero, 4)) := by
  cases hb : rdOk b
  · refine .inr ⟨fun s hs e => ?_, readRes_neg hb⟩
    have := readRes_back hs
    rw [e, readRes_neg hb] at this
    have h2 := congrArg Prod.snd this
    simp at h2
  · obtain ⟨h1, h2⟩ := rd_sound hb
    exact .inl ⟨_, h1, h2, readRes_pos hb⟩
theorem readRes_ok {b : List UInt8} (h : (readRes b).2 = 0) : mayState (readRes b).1 = true ∧ stB (readRes b).1 = b := by
  rcases readRes_cases b with ⟨s, h1, h2, h3⟩ | ⟨_, h3⟩
  · rw [h3]
    exact ⟨h1, h2⟩
  · rw [h3] at h
    simp at h
theorem readRes_cut {s : St} (h : mayState s = true) {k : Nat} (hk : k < (stB s).length) : readRes ((stB s).take k) = (stZero, 4) := by
  rcases readRes_cases ((stB s).take k) with ⟨t, ht, e, _⟩ | ⟨_, e⟩
  · exfalso
    have h1 := rd_of ht ((stB s).drop k)
    rw [e, List.take_append_drop, rd_back h] at h1
    have h2 : (stB s).drop k = [] := (congrArg (fun x => x.2.2) h1).symm
    have := congrArg List.length h2
    simp at this
    omega
  · exact e
theorem readRes_more {s : St} (h : mayState s = true) {r : List UInt8} (hr : r ≠ []) : readRes (stB s ++ r) = (stZero, 4) := by
  rcases readRes_cases (stB s ++ r) with ⟨t, ht, e, _⟩ | ⟨_, e⟩
  · exfalso
    have h1 := rd_back ht
    rw [e, rd_of h] at h1
    exact hr (congrArg (fun x => x.2.2) h1)
  · exact e
theorem stB_len {s : St} (h : mayState s = true) : (stB s).length = 13 + 44 * s.sn.length + 72 * s.cs.length := by
  have hg := mayState_good h
  unfold stB
  rw [List.length_append, List.length_append, List.length_append, headB_len, flatMap_len (fun x hx => snapB_len (hg.sn x hx)), be_len, zipB_len hg.csLen.1 hg.cs hg.ps]
  omega
end Go.Proofs.Ytbfephekkfieaaa
