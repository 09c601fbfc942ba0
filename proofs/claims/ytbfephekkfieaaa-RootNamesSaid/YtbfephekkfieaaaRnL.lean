/-
  PLAIN LAW of RootNames: the example's state, its bytes, and bytes that are refused.
-/
import Derived.Test.YtbfephekkfieaaaReadC
import Derived.Test.YtbfephekkfieaaaSameB
import Derived.Test.YtbfephekkfieaaaWorks23
namespace Go.Proofs.Ytbfephekkfieaaa
open Go.RowKit

abbrev lA : ByteArray := letterRoot 97
abbrev lB : ByteArray := letterRoot 98
abbrev lP : ByteArray := letterRoot 112
def rnSn : List Snap := [⟨1, 1099511627776, letterRoot 114⟩, ⟨2, 0, letterRoot 113⟩]
def rnCs : List ByteArray := [lA, lB]
def rnPs : List Place := [⟨lP, 70, 256⟩, ⟨lP, 8, 1⟩]
def rnF : St := ⟨2, 3, 3, rnSn, rnCs, rnPs⟩
theorem lt_ab : sLt lA lB = true := by
  rw [sLt_iff]
  decide +kernel
theorem lt_ba : sLt lB lA = false := sLt_asymm lt_ab
theorem rn_idx : mayIdx rnCs rnPs = true := by
  have h1 : mayPlace ⟨lP, 70, 256⟩ = true := by decide +kernel
  have h2 : mayPlace ⟨lP, 8, 1⟩ = true := by decide +kernel
  have h3 : apartB rnPs = true := by decide +kernel
  have h4 : lA.size = 32 ∧ lB.size = 32 := by decide +kernel
  unfold mayIdx
  rw [h3]
  simp [rnCs, rnPs, chk, prevOk, h1, h2, h4, lt_ab]
theorem rn_sn : mayL rnSn = true := by decide +kernel
theorem rn_may : mayState rnF = true := by
  unfold mayState rnF
  rw [rn_idx, rn_sn]
  decide +kernel
def rnWant : List UInt8 := [115, 116, 97, 49, 2, 3, 0, 0, 0, 3, 2, 0, 0, 0, 1, 0, 0, 1, 0, 0, 0, 0, 0] ++ List.replicate 32 114 ++ [0, 0, 0, 2, 0, 0, 0, 0, 0, 0, 0, 0] ++ List.replicate 32 113 ++ [0, 2] ++ List.replicate 32 97 ++ List.replicate 32 112 ++ [0, 0, 0, 70, 0, 0, 1, 0] ++ List.replicate 32 98 ++ List.replicate 32 112 ++ [0, 0, 0, 8, 0, 0, 0, 1]
theorem rn_bytes : stB rnF = rnWant := by decide +kernel
theorem rn_make : makeRes rnF = (str rnWant, 0) := by unfold makeRes; rw [if_pos rn_may, rn_bytes]
theorem rn_read : readRes rnWant = (rnF, 0) := by rw [← rn_bytes]; exact readRes_back rn_may
/-- The last number. -/
def rnZ : St := ⟨2, 3, 2147483648, rnSn, rnCs, rnPs⟩
theorem rnZ_may : mayState rnZ = true := by
  unfold mayState rnZ
  rw [rn_idx, rn_sn]
  decide +kernel
theorem rnZ_make : makeRes rnZ = (str (stB rnZ), 0) := by unfold makeRes; rw [if_pos rnZ_may]
theorem rnZ_read : readRes (stB rnZ) = (rnZ, 0) := readRes_back rnZ_may
theorem rn_code : mayState ⟨3, 2, 3, rnSn, rnCs, rnPs⟩ = false := by unfold mayState; simp [mayCode]
theorem rn_early : mayState ⟨2, 3, 2, rnSn, rnCs, rnPs⟩ = false := by unfold mayState; simp [lastOf, rnSn]
theorem rn_late : mayState ⟨2, 3, 2147483649, rnSn, rnCs, rnPs⟩ = false := by unfold mayState; simp
theorem rn_snaps : mayState ⟨2, 3, 3, [⟨2, 0, letterRoot 113⟩, ⟨1, 1099511627776, letterRoot 114⟩], rnCs, rnPs⟩ = false := by
  have : mayL [⟨2, 0, letterRoot 113⟩, ⟨1, 1099511627776, letterRoot 114⟩] = false := by decide +kernel
  unfold mayState; simp [this]
theorem rn_chunks : mayState ⟨2, 3, 3, rnSn, [lB, lA], rnPs⟩ = false := by
  have : mayIdx [lB, lA] rnPs = false := by unfold mayIdx; simp [rnPs, chk, prevOk, lt_ba]
  unfold mayState; simp [this]
theorem rn_same : sameSt rnF rnF = true := by simp [sameSt]
theorem rn_bare : sameSt rnF ⟨2, 3, 3, [], [], []⟩ = false := by simp [sameSt, rnF, rnSn]
theorem rn_moved : sameSt rnF ⟨2, 3, 3, rnSn, rnCs, [⟨lP, 70, 256⟩, ⟨lP, 9, 1⟩]⟩ = false := by simp [sameSt, rnF, rnPs]
/-- What is refused. -/
def rnBad : List (List UInt8) := [[], [115, 116, 97, 49], rnWant ++ [120], rnWant.take 244, [115, 116, 97, 50] ++ rnWant.drop 4, rnWant.take 4 ++ [4] ++ rnWant.drop 5, rnWant.take 6 ++ [128, 0, 0, 1] ++ rnWant.drop 10, rnWant.take 10 ++ [3] ++ rnWant.drop 11, rnWant.take 10 ++ [255] ++ rnWant.drop 11, rnWant.take 15 ++ [255] ++ rnWant.drop 16, rnWant.take 99 ++ [255, 255] ++ rnWant.drop 101, [115, 116, 97, 49, 2, 3, 0, 0, 0, 1, 0, 0]]
theorem rn_len : rnWant.length = 245 := by decide +kernel
theorem rn_next : rd (rnWant.take 6 ++ [128, 0, 0, 1] ++ rnWant.drop 10) = (⟨2, 3, 2147483649, rnSn, rnCs, rnPs⟩, (false, [])) := by kernel_rfl
theorem rn_no : ∀ b ∈ rnBad, readRes b = (stZero, 4) := by
  have key : ∀ b ∈ rnBad, rdOk b = false := by
    intro b hb
    unfold rnBad at hb
    simp only [List.mem_cons, List.not_mem_nil, or_false] at hb
    rcases hb with rfl | rfl | rfl | rfl | rfl | rfl | rfl | rfl | rfl | rfl | rfl | rfl
    · kernel_rfl
    · kernel_rfl
    · kernel_rfl
    · kernel_rfl
    · kernel_rfl
    · kernel_rfl
    · unfold rdOk
      rw [rn_next]
      rw [rn_late]
      simp
    · kernel_rfl
    · kernel_rfl
    · kernel_rfl
    · kernel_rfl
    · kernel_rfl
  exact fun b hb => readRes_neg (key b hb)
def rnBadS (S : ByteArray) : List ByteArray := [⟨#[]⟩, ⟨#[115, 116, 97, 49]⟩, S ++ ⟨#[120]⟩, S.extract 0 244, ⟨#[115, 116, 97, 50]⟩ ++ S.extract 4 245, S.extract 0 4 ++ ⟨#[4]⟩ ++ S.extract 5 245, S.extract 0 6 ++ ⟨#[128, 0, 0, 1]⟩ ++ S.extract 10 245, S.extract 0 10 ++ ⟨#[3]⟩ ++ S.extract 11 245, S.extract 0 10 ++ ⟨#[255]⟩ ++ S.extract 11 245, S.extract 0 15 ++ ⟨#[255]⟩ ++ S.extract 16 245, S.extract 0 99 ++ ⟨#[255, 255]⟩ ++ S.extract 101 245, ⟨#[115, 116, 97, 49, 2, 3, 0, 0, 0, 1, 0, 0]⟩]
theorem bl_extract (S : ByteArray) (a b : Nat) : bl (S.extract a b) = ((bl S).take b).drop a := by
  unfold bl
  rw [ByteArray.data_extract, Array.toList_extract, List.extract_eq_take_drop]
  simp [List.drop_take]
theorem rn_all (a : Nat) : (rnWant.take 245).drop a = rnWant.drop a := by rw [← rn_len, List.take_length]
theorem rnBadS_eq : (rnBadS (str rnWant)).map bl = rnBad := by
  unfold rnBadS rnBad
  simp only [List.map_cons, List.map_nil, bl_append, bl_extract, bl_str, rn_all, List.drop_zero]
theorem rnBadS_no {b : ByteArray} (h : b ∈ rnBadS (str rnWant)) : readRes (bl b) = (stZero, 4) ∧ (bl b).length ≤ 100000 := by
  have h1 : bl b ∈ rnBad := by rw [← rnBadS_eq]; exact List.mem_map_of_mem h
  refine ⟨rn_no _ h1, ?_⟩
  have h2 : ∀ l ∈ rnBad, l.length ≤ 100000 := by decide +kernel
  exact h2 _ h1
theorem sameSt_zero : sameSt stZero stZero = true := by simp [sameSt]
end Go.Proofs.Ytbfephekkfieaaa
