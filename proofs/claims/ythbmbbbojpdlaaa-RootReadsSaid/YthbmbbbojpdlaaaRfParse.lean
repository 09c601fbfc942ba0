/-
  A state read back from its bytes by positions, as the reference does: the plain law. No program in sight.
-/
import Derived.Test.YthbmbbbojpdlaaaParse
namespace Go.Proofs.Ythbmbbbojpdlaaa
open Go.RowKit

/-- The number of some bytes; -1 if it is too great for 63 bits. -/
def svr (l : List UInt8) : Int := if val l < 9223372036854775808 then (val l : Int) else -1
theorem svr_be {n : Int} {m : Nat} (h0 : 0 ≤ n) (h : n.toNat < 256 ^ m) (h' : n < 9223372036854775808) : svr (be n.toNat m) = n := by
  unfold svr
  rw [val_be h, if_pos (by omega)]
  omega
def rfSnap (p : List UInt8) : Snap := ⟨svr (p.take 4), svr ((p.drop 4).take 8), str ((p.drop 12).take 32)⟩
def rfPlace (p : List UInt8) : Place := ⟨str ((p.drop 32).take 32), svr ((p.drop 64).take 4), svr ((p.drop 68).take 4)⟩
def rfSnaps : Nat → List UInt8 → List Snap → List Snap
  | 0, _, l => l
  | c + 1, p, l => rfSnaps c (p.drop 44) (l ++ [rfSnap p])
def rfChunks : Nat → List UInt8 → List ByteArray → List Place → List ByteArray × List Place
  | 0, _, l, m => (l, m)
  | c + 1, p, l, m => rfChunks c (p.drop 72) (l ++ [str (p.take 32)]) (m ++ [rfPlace p])
def rfC (b : List UInt8) : Nat := (b.getD 10 0).toNat
def rfM (b : List UInt8) : Nat := val ((b.drop (11 + 44 * rfC b)).take 2)
def rf (b : List UInt8) : St :=
  ⟨((b.getD 4 0).toNat : Int), ((b.getD 5 0).toNat : Int), svr ((b.drop 6).take 4), rfSnaps (rfC b) (b.drop 11) [], (rfChunks (rfM b) (b.drop (13 + 44 * rfC b)) [] []).1, (rfChunks (rfM b) (b.drop (13 + 44 * rfC b)) [] []).2⟩

theorem take_l {l r : List UInt8} {n : Nat} (h : l.length = n) : (l ++ r).take n = l := by
  subst h
  simp
theorem drop_l {l r : List UInt8} {n : Nat} (h : l.length = n) : (l ++ r).drop n = r := by
  subst h
  simp
theorem rfSnap_of {s : Snap} (h : mayOne s = true) (r : List UInt8) : rfSnap (snapB s ++ r) = s ∧ (snapB s ++ r).drop 44 = r := by
  obtain ⟨h1, h2, h3, h4, h5⟩ := mayOne_bounds h
  refine ⟨?_, drop_l (snapB_len h)⟩
  unfold rfSnap snapB
  have e1 : (be s.id.toNat 4 ++ be s.time.toNat 8 ++ bl s.root ++ r).take 4 = be s.id.toNat 4 := by
    rw [List.append_assoc, List.append_assoc]
    exact take_l (be_len _ _)
  have e2 : ((be s.id.toNat 4 ++ be s.time.toNat 8 ++ bl s.root ++ r).drop 4).take 8 = be s.time.toNat 8 := by
    rw [List.append_assoc, List.append_assoc, drop_l (be_len _ _)]
    exact take_l (be_len _ _)
  have e3 : ((be s.id.toNat 4 ++ be s.time.toNat 8 ++ bl s.root ++ r).drop 12).take 32 = bl s.root := by
    rw [List.append_assoc, drop_l (by simp [be_len])]
    exact take_l (by rw [bl_len, h5])
  rw [e1, e2, e3, svr_be (by omega) (by omega) (by omega), svr_be (by omega) (by omega) (by omega)]
  rfl
theorem rfSnaps_of : ∀ {l acc : List Snap} {r : List UInt8}, (∀ s ∈ l, mayOne s = true) → rfSnaps l.length (l.flatMap snapB ++ r) acc = acc ++ l
  | [], acc, r, _ => by simp [rfSnaps]
  | s :: l, acc, r, h => by
    obtain ⟨e1, e2⟩ := rfSnap_of (h s (by simp)) (l.flatMap snapB ++ r)
    rw [List.length_cons, rfSnaps, List.flatMap_cons, List.append_assoc, e1, e2, rfSnaps_of (fun x hx => h x (by simp [hx]))]
    simp
theorem rfChunk_of {c : ByteArray} {p : Place} (hc : c.size = 32) (hp : mayPlace p = true) (r : List UInt8) :
    str ((chunkB c p ++ r).take 32) = c ∧ rfPlace (chunkB c p ++ r) = p ∧ (chunkB c p ++ r).drop 72 = r := by
  obtain ⟨p1, p2, p3, p4, p5⟩ := mayPlace_bounds hp
  have hz := mayPlace_size hp
  refine ⟨?_, ?_, drop_l (chunkB_len hc hp)⟩
  · unfold chunkB
    rw [List.append_assoc, List.append_assoc, List.append_assoc, take_l (by rw [bl_len, hc])]
    rfl
  · unfold rfPlace chunkB
    have e1 : ((bl c ++ bl p.pack ++ be p.at_.toNat 4 ++ be p.len.toNat 4 ++ r).drop 32).take 32 = bl p.pack := by
      rw [List.append_assoc, List.append_assoc, List.append_assoc, drop_l (by rw [bl_len, hc])]
      exact take_l (by rw [bl_len, hz])
    have e2 : ((bl c ++ bl p.pack ++ be p.at_.toNat 4 ++ be p.len.toNat 4 ++ r).drop 64).take 4 = be p.at_.toNat 4 := by
      rw [List.append_assoc, List.append_assoc, drop_l (by rw [List.length_append, bl_len, bl_len, hc, hz])]
      exact take_l (be_len _ _)
    have e3 : ((bl c ++ bl p.pack ++ be p.at_.toNat 4 ++ be p.len.toNat 4 ++ r).drop 68).take 4 = be p.len.toNat 4 := by
      rw [List.append_assoc, drop_l (by rw [List.length_append, List.length_append, bl_len, bl_len, hc, hz, be_len])]
      exact take_l (be_len _ _)
    rw [e1, e2, e3, svr_be (by omega) (by omega) (by omega), svr_be (by omega) (by omega) (by omega)]
    rfl
theorem rfChunks_of : ∀ {l a : List ByteArray} {m b : List Place} {r : List UInt8}, l.length = m.length → (∀ c ∈ l, c.size = 32) → (∀ p ∈ m, mayPlace p = true) → rfChunks l.length (zipB l m ++ r) a b = (a ++ l, b ++ m)
  | [], a, [], b, r, _, _, _ => by simp [rfChunks]
  | [], _, _ :: _, _, _, h, _, _ => by simp at h
  | _ :: _, _, [], _, _, h, _, _ => by simp at h
  | c :: l, a, p :: m, b, r, h, h1, h2 => by
    obtain ⟨e1, e2, e3⟩ := rfChunk_of (h1 c (by simp)) (h2 p (by simp)) (zipB l m ++ r)
    rw [List.length_cons, rfChunks, zipB, List.append_assoc, e1, e2, e3, rfChunks_of (by simpa using h) (fun x hx => h1 x (by simp [hx])) (fun x hx => h2 x (by simp [hx]))]
    simp
theorem be_one (n : Nat) : be n 1 = [UInt8.ofNat n] := by simp [be]
theorem list4 {l : List UInt8} (h : l.length = 4) : ∃ a b c d, l = [a, b, c, d] := by
  match l, h with
  | [a, b, c, d], _ => exact ⟨a, b, c, d, rfl⟩
theorem rf_of {s : St} (h : mayState s = true) : rfC (stB s) = s.sn.length ∧ rfM (stB s) = s.cs.length ∧ rf (stB s) = s := by
  have hg := mayState_good h
  obtain ⟨k, n, next, sn, cs, ps⟩ := s
  obtain ⟨⟨gk1, gk2, gk3⟩, ⟨gn1, gn2⟩, gl, gs, -, ⟨gc1, gc2⟩, gcs, gps⟩ := hg
  dsimp only at gk1 gk2 gk3 gn1 gn2 gl gs gc1 gc2 gcs gps ⊢
  obtain ⟨x0, x1, x2, x3, hx⟩ := list4 (be_len next.toNat 4)
  have hb : stB ⟨k, n, next, sn, cs, ps⟩ = 115 :: 116 :: 97 :: 49 :: UInt8.ofNat k.toNat :: UInt8.ofNat n.toNat :: x0 :: x1 :: x2 :: x3 :: UInt8.ofNat sn.length :: (sn.flatMap snapB ++ (be cs.length 2 ++ (zipB cs ps ++ []))) := by
    unfold stB headB
    dsimp only
    rw [be_one, be_one, be_one, hx]
    simp
  have hlen : (sn.flatMap snapB).length = 44 * sn.length := by rw [flatMap_len (fun x hx => snapB_len (gs x hx))]; omega
  have hC : rfC (stB ⟨k, n, next, sn, cs, ps⟩) = sn.length := by
    rw [hb]
    show (UInt8.ofNat sn.length).toNat = sn.length
    rw [UInt8.toNat_ofNat']
    omega
  have hM : rfM (stB ⟨k, n, next, sn, cs, ps⟩) = cs.length := by
    unfold rfM
    rw [hC, hb, ← List.drop_drop]
    show val (((sn.flatMap snapB ++ (be cs.length 2 ++ (zipB cs ps ++ []))).drop (44 * sn.length)).take 2) = cs.length
    rw [drop_l hlen, take_l (be_len _ _), val_be (by omega)]
  refine ⟨hC, hM, ?_⟩
  unfold rf
  rw [hC, hM, hb]
  have e3 : (115 :: 116 :: 97 :: 49 :: UInt8.ofNat k.toNat :: UInt8.ofNat n.toNat :: x0 :: x1 :: x2 :: x3 :: UInt8.ofNat sn.length :: (sn.flatMap snapB ++ (be cs.length 2 ++ (zipB cs ps ++ [])))).drop (13 + 44 * sn.length) = zipB cs ps ++ [] := by
    rw [show 13 + 44 * sn.length = 11 + (44 * sn.length + 2) by omega, ← List.drop_drop]
    show (sn.flatMap snapB ++ (be cs.length 2 ++ (zipB cs ps ++ []))).drop (44 * sn.length + 2) = _
    rw [← List.drop_drop, drop_l hlen, drop_l (be_len _ _)]
  rw [e3, rfChunks_of gc1 gcs gps]
  have e1 : rfSnaps sn.length (sn.flatMap snapB ++ (be cs.length 2 ++ (zipB cs ps ++ []))) [] = [] ++ sn := rfSnaps_of gs
  have e2 : svr (be next.toNat 4) = next := svr_be (by omega) (by omega) (by omega)
  rw [hx] at e2
  show (⟨((UInt8.ofNat k.toNat).toNat : Int), ((UInt8.ofNat n.toNat).toNat : Int), svr [x0, x1, x2, x3], rfSnaps sn.length (sn.flatMap snapB ++ (be cs.length 2 ++ (zipB cs ps ++ []))) [], [] ++ cs, [] ++ ps⟩ : St) = _
  rw [e1, e2, UInt8.toNat_ofNat', UInt8.toNat_ofNat']
  simp only [List.nil_append, St.mk.injEq, and_true]
  omega

theorem readRes_short {b : List UInt8} (h : b.length < 13) : readRes b = (stZero, 4) := by
  rcases readRes_cases b with ⟨s, h1, h2, _⟩ | ⟨_, h3⟩
  · have := stB_len h1
    rw [h2] at this
    omega
  · exact h3
theorem readRes_short2 {b : List UInt8} (h : b.length < 13 + 44 * rfC b) : readRes b = (stZero, 4) := by
  rcases readRes_cases b with ⟨s, h1, h2, _⟩ | ⟨_, h3⟩
  · have h4 := stB_len h1
    have h5 := (rf_of h1).1
    rw [h2] at h4 h5
    rw [h5] at h
    omega
  · exact h3
theorem readRes_len {b : List UInt8} (h : b.length ≠ 13 + 44 * rfC b + 72 * rfM b) : readRes b = (stZero, 4) := by
  rcases readRes_cases b with ⟨s, h1, h2, _⟩ | ⟨_, h3⟩
  · have h4 := stB_len h1
    obtain ⟨h5, h6, _⟩ := rf_of h1
    rw [h2] at h4 h5 h6
    rw [h5, h6] at h
    omega
  · exact h3
theorem readRes_yes {b : List UInt8} (h : mayState (rf b) = true) (h' : stB (rf b) = b) : readRes b = (rf b, 0) := by
  have := readRes_back h
  rwa [h'] at this
theorem readRes_no {b : List UInt8} (h : ¬ (mayState (rf b) = true ∧ stB (rf b) = b)) : readRes b = (stZero, 4) := by
  rcases readRes_cases b with ⟨s, h1, h2, _⟩ | ⟨_, h3⟩
  · have h4 := (rf_of h1).2.2
    rw [h2] at h4
    exact absurd ⟨by rw [h4]; exact h1, by rw [h4]; exact h2⟩ h
  · exact h3
end Go.Proofs.Ythbmbbbojpdlaaa
