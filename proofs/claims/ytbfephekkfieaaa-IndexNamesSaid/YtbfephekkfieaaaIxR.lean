/-
  The last region of IndexNames, over whatever frame: each of its facts is true.
-/
import Derived.Test.YtbfephekkfieaaaIxL
import Derived.Test.YtbfephekkfieaaaSameB
namespace Go.Proofs.Ytbfephekkfieaaa
open Go.RowKit
attribute [local go_sem ↓] Go.wp_at_zero Go.wp_at_succ

theorem kF.hide {P : Program} {Q : Exit → Act → World → Prop} {S : World → Prop} {l : List Oper} {a : Act} {w : World} (n : Nat) (hn : l.length = n) (h : ∀ l', l' = l → kF P l'.toArray Q S [] n (Array.replicate n false) a w) : kF P l.toArray Q S [] l.length (Array.replicate l.length false) a w := by
  rw [hn]
  exact h l rfl

/-- A region of a body, by its number. -/
def regionOf (n : Nat) : Code → Option (Array Oper)
  | .region id ops _ => if id == n then some ops else none
  | .seq a b => match regionOf n a with
    | some o => some o
    | none => regionOf n b
  | .block _ c => regionOf n c
  | .scope c => regionOf n c
  | .cond _ a b => match regionOf n a with
    | some o => some o
    | none => regionOf n b
  | .loop c => regionOf n c
  | _ => none
theorem toArr_inj {a b : List Oper} (h : a.toArray = b.toArray) : a = b := by simpa using h
theorem region_is {B : Option Code} {n : Nat} {ops : Array Oper} (l : List Oper) (h : (B.bind (regionOf n)) = some ops) (hl : (B.bind (regionOf n)) = some l.toArray) : ops = l.toArray := Option.some.inj (h.symm.trans hl)


set_option maxHeartbeats 32000000 in
set_option maxRecDepth 100000 in
theorem ix_lastB {Q : Exit → Act → World → Prop} {l35 : List Oper} (hops : (Try.f4.body.bind (regionOf 35)) = some l35.toArray) (hnoS : Region.noSelect l35.toArray = true) (hallF : allFree l35 = true) (w u : World)
    (q6 q20 q24 n5 c5 b6 o6 c6 n7 c7 : Nat) (A5 A7 : Option Addr)
    (x0 x1 x2 x3 x4 x5 x7 x8 x9 x10 x11 x12 x13 x14 x15 x16 x17 x18 x19 x22 x26 x28 x30 x32 x34 x36 x41 x42 x46 x47 x48 x49 x50 x51 x52 x53 x54 x55 x56 x57 x58 x59 x60 x61 x62 x63 x64 x65 x66 x67 x68 x69 x70 x71 x72 x73 x74 x75 x76 x77 x78 x79 x80 x81 x82 x83 x84 x85 x86 x87 x88 x89 x90 x91 x92 x93 x94 x95 x96 x97 x98 x99 x100 x101 x102 x103 x104 x105 x106 x107 x108 x109 x110 x111 x112 x113 x114 x115 x116 x117 x118 x119 x120 x121 x122 x123 x124 x125 x126 x127 x128 x129 x130 x131 x132 x133 x134 x135 x136 x137 x138 x139 x140 x141 x142 x143 x144 x145 x146 x147 x148 x149 x150 x151 x152 x153 x154 x155 x156 x157 x158 x159 x160 x161 x162 x163 x164 x165 x166 x167 x168 x169 x170 x171 x172 x173 x174 x175 x176 x177 x178 x179 x180 x181 x182 x183 x184 x185 x186 x187 x188 x189 x190 x191 x192 x193 x194 x195 x196 x197 x198 x199 x200 x201 x202 x203 x204 x205 x206 x207 x208 x209 x210 x211 x212 x213 x214 x215 x216 x217 x218 x219 x220 x221 x222 x223 x224 x225 x226 x227 x228 x229 x230 x231 x232 x233 x234 x235 x236 x237 x238 x239 x240 x241 x242 x243 x244 x245 x246 x247 x248 x249 x250 x251 x252 x253 x254 x255 x256 x257 x258 x259 x260 x261 x262 x263 x264 x265 x266 x267 x268 x269 x270 x271 x272 x273 x274 x275 x276 x277 x278 x279 x280 x281 x282 x283 x284 x285 x286 x287 x288 x289 x290 x291 x292 x293 x294 x295 x296 x297 x298 x299 x300 x301 x302 x303 x304 x305 x306 x307 x308 x309 x310 x311 x312 x313 x314 x315 x316 x317 x318 x319 x320 x321 x322 x323 x324 x325 x326 x327 x328 x329 x330 x331 x332 x333 x334 x335 x336 x337 x338 x339 x340 x341 x342 x343 x344 x345 x346 x347 x348 x349 x350 x351 x352 x353 x354 x355 x356 x357 x358 x359 x360 x361 x362 x363 x364 x365 x366 x367 x368 x369 x370 x371 x372 x373 x374 x375 x376 x377 x378 x379 x380 x381 x382 x383 x384 x385 x386 x387 x388 x389 x390 x391 x392 x393 x394 x395 x396 x397 x398 x399 x400 x401 x402 x403 x404 x405 x406 x407 x408 x409 x412 x413 x414 x415 x416 x417 x418 x419 x420 x421 x422 x423 x424 x425 x426 x427 x428 x429 x430 x431 x432 x433 x434 x435 x436 x437 : Value)
    (ld : b6 < w.heap.size) (cd : w.cell? ⟨b6, o6 + 1, none⟩ = some (.int .i64 0))
    (hD5 : Hid (∀ W, Below w.heap.size w W → StrsAt W W.heap.size A5 n5 [kB, kA])) (hP7 : Hid (∀ W, Below w.heap.size w W → StrsAt W W.heap.size A7 n7 (fulCs 3)))
    (hQ : Hid (∀ (y328 y329 y330 y331 y332 y333 y334 y335 y336 y337 y338 y339 y340 y341 y342 y343 y344 y345 y346 y347 y348 y349 y350 y351 y352 y353 y354 y355 y356 y357 y358 y359 y360 y361 y362 y363 y364 y365 y366 y367 y368 y369 y370 y371 y372 y373 y374 y375 y376 y377 y378 y379 y380 y381 y382 y383 y384 y385 y386 y387 y388 y389 y390 y391 y392 y393 y394 y395 y396 y397 y398 y399 y400 y401 y402 y403 y404 y405 y406 y407 y408 y409 y410 y411 y412 y413 y414 y415 y416 y417 y418 y419 y420 y421 y422 y423 y424 y425 y426 y427 y428 y429 y430 y431 y432 y433 y434 y435 y436 y437 : Value) (w' : World), Below w.heap.size w w' → Q .normal { tmps := #[.bool true, x1, x2, x3, x4, x5, .pointer (some ⟨q6, 0, none⟩), x7, x8, x9, x10, x11, x12, x13, x14, x15, x16, x17, x18, x19, .pointer (some ⟨q20, 0, none⟩), .int .i64 0, x22, .int .i64 5, .pointer (some ⟨q24, 0, none⟩), .int .i64 0, x26, .int .i64 1, x28, .int .i64 1, x30, .int .i64 6, x32, .int .i64 40, x34, .int .i64 0, x36, .int .i64 1, .slice A5 n5 c5, .slice (some ⟨b6, o6, none⟩) 2 c6, .int .i64 0, x41, x42, .int .i64 5, .slice A7 n7 c7, .int .i64 0, x46, x47, x48, x49, x50, x51, x52, x53, x54, x55, x56, x57, x58, x59, x60, x61, x62, x63, x64, x65, x66, x67, x68, x69, x70, x71, x72, x73, x74, x75, x76, x77, x78, x79, x80, x81, x82, x83, x84, x85, x86, x87, x88, x89, x90, x91, x92, x93, x94, x95, x96, x97, x98, x99, x100, x101, x102, x103, x104, x105, x106, x107, x108, x109, x110, x111, x112, x113, x114, x115, x116, x117, x118, x119, x120, x121, x122, x123, x124, x125, x126, x127, x128, x129, x130, x131, x132, x133, x134, x135, x136, x137, x138, x139, x140, x141, x142, x143, x144, x145, x146, x147, x148, x149, x150, x151, x152, x153, x154, x155, x156, x157, x158, x159, x160, x161, x162, x163, x164, x165, x166, x167, x168, x169, x170, x171, x172, x173, x174, x175, x176, x177, x178, x179, x180, x181, x182, x183, x184, x185, x186, x187, x188, x189, x190, x191, x192, x193, x194, x195, x196, x197, x198, x199, x200, x201, x202, x203, x204, x205, x206, x207, x208, x209, x210, x211, x212, x213, x214, x215, x216, x217, x218, x219, x220, x221, x222, x223, x224, x225, x226, x227, x228, x229, x230, x231, x232, x233, x234, x235, x236, x237, x238, x239, x240, x241, x242, x243, x244, x245, x246, x247, x248, x249, x250, x251, x252, x253, x254, x255, x256, x257, x258, x259, x260, x261, x262, x263, x264, x265, x266, x267, x268, x269, x270, x271, x272, x273, x274, x275, x276, x277, x278, x279, x280, x281, x282, x283, x284, x285, x286, x287, x288, x289, x290, x291, x292, x293, x294, x295, x296, x297, x298, x299, x300, x301, x302, x303, x304, x305, x306, x307, x308, x309, x310, x311, x312, x313, x314, x315, x316, x317, x318, x319, x320, x321, x322, x323, x324, x325, x326, x327, y328, y329, y330, y331, y332, y333, y334, y335, y336, y337, y338, y339, y340, y341, y342, y343, y344, y345, y346, y347, y348, y349, y350, y351, y352, y353, y354, y355, y356, y357, y358, y359, y360, y361, y362, y363, y364, y365, y366, y367, y368, y369, y370, y371, y372, y373, y374, y375, y376, y377, y378, y379, y380, y381, y382, y383, y384, y385, y386, y387, y388, y389, y390, y391, y392, y393, y394, y395, y396, y397, y398, y399, y400, y401, y402, y403, y404, y405, y406, y407, y408, y409, y410, y411, y412, y413, y414, y415, y416, y417, y418, y419, y420, y421, y422, y423, y424, y425, y426, y427, y428, y429, y430, y431, y432, y433, y434, y435, y436, y437], defers := [] } w')) :
    kF Try.prog l35.toArray (NoPanic Q) (fun W : World => Below w.heap.size w W) [] 27 (((((((((((((((((((((((((((((((((((((((((((((((((((((((((((((((((((((((((((((((((((((Array.replicate 111 false).setIfInBounds 0 true).setIfInBounds 1 true).setIfInBounds 2 true).setIfInBounds 3 true).setIfInBounds 4 true).setIfInBounds 5 true).setIfInBounds 6 true).setIfInBounds 7 true).setIfInBounds 8 true).setIfInBounds 9 true).setIfInBounds 10 true).setIfInBounds 11 true).setIfInBounds 12 true).setIfInBounds 13 true).setIfInBounds 14 true).setIfInBounds 15 true).setIfInBounds 16 true).setIfInBounds 17 true).setIfInBounds 18 true).setIfInBounds 19 true).setIfInBounds 20 true).setIfInBounds 21 true).setIfInBounds 22 true).setIfInBounds 23 true).setIfInBounds 24 true).setIfInBounds 25 true).setIfInBounds 26 true).setIfInBounds 27 true).setIfInBounds 28 true).setIfInBounds 29 true).setIfInBounds 30 true).setIfInBounds 31 true).setIfInBounds 32 true).setIfInBounds 33 true).setIfInBounds 34 true).setIfInBounds 35 true).setIfInBounds 36 true).setIfInBounds 37 true).setIfInBounds 38 true).setIfInBounds 39 true).setIfInBounds 40 true).setIfInBounds 41 true).setIfInBounds 42 true).setIfInBounds 43 true).setIfInBounds 44 true).setIfInBounds 45 true).setIfInBounds 46 true).setIfInBounds 47 true).setIfInBounds 48 true).setIfInBounds 49 true).setIfInBounds 50 true).setIfInBounds 51 true).setIfInBounds 52 true).setIfInBounds 53 true).setIfInBounds 54 true).setIfInBounds 55 true).setIfInBounds 56 true).setIfInBounds 57 true).setIfInBounds 58 true).setIfInBounds 59 true).setIfInBounds 60 true).setIfInBounds 61 true).setIfInBounds 62 true).setIfInBounds 63 true).setIfInBounds 64 true).setIfInBounds 65 true).setIfInBounds 66 true).setIfInBounds 67 true).setIfInBounds 68 true).setIfInBounds 69 true).setIfInBounds 70 true).setIfInBounds 71 true).setIfInBounds 72 true).setIfInBounds 73 true).setIfInBounds 74 true).setIfInBounds 75 true).setIfInBounds 76 true).setIfInBounds 77 true).setIfInBounds 78 true).setIfInBounds 79 true).setIfInBounds 80 true).setIfInBounds 81 true).setIfInBounds 82 true).setIfInBounds 83 true) { tmps := #[x0, x1, x2, x3, x4, x5, .pointer (some ⟨q6, 0, none⟩), x7, x8, x9, x10, x11, x12, x13, x14, x15, x16, x17, x18, x19, .pointer (some ⟨q20, 0, none⟩), .int .i64 0, x22, .int .i64 5, .pointer (some ⟨q24, 0, none⟩), .int .i64 0, x26, .int .i64 1, x28, .int .i64 1, x30, .int .i64 6, x32, .int .i64 40, x34, .int .i64 0, x36, .int .i64 1, .slice A5 n5 c5, .slice (some ⟨b6, o6, none⟩) 2 c6, .int .i64 0, x41, x42, .int .i64 5, .slice A7 n7 c7, .int .i64 0, x46, x47, x48, x49, x50, x51, x52, x53, x54, x55, x56, x57, x58, x59, x60, x61, x62, x63, x64, x65, x66, x67, x68, x69, x70, x71, x72, x73, x74, x75, x76, x77, x78, x79, x80, x81, x82, x83, x84, x85, x86, x87, x88, x89, x90, x91, x92, x93, x94, x95, x96, x97, x98, x99, x100, x101, x102, x103, x104, x105, x106, x107, x108, x109, x110, x111, x112, x113, x114, x115, x116, x117, x118, x119, x120, x121, x122, x123, x124, x125, x126, x127, x128, x129, x130, x131, x132, x133, x134, x135, x136, x137, x138, x139, x140, x141, x142, x143, x144, x145, x146, x147, x148, x149, x150, x151, x152, x153, x154, x155, x156, x157, x158, x159, x160, x161, x162, x163, x164, x165, x166, x167, x168, x169, x170, x171, x172, x173, x174, x175, x176, x177, x178, x179, x180, x181, x182, x183, x184, x185, x186, x187, x188, x189, x190, x191, x192, x193, x194, x195, x196, x197, x198, x199, x200, x201, x202, x203, x204, x205, x206, x207, x208, x209, x210, x211, x212, x213, x214, x215, x216, x217, x218, x219, x220, x221, x222, x223, x224, x225, x226, x227, x228, x229, x230, x231, x232, x233, x234, x235, x236, x237, x238, x239, x240, x241, x242, x243, x244, x245, x246, x247, x248, x249, x250, x251, x252, x253, x254, x255, x256, x257, x258, x259, x260, x261, x262, x263, x264, x265, x266, x267, x268, x269, x270, x271, x272, x273, x274, x275, x276, x277, x278, x279, x280, x281, x282, x283, x284, x285, x286, x287, x288, x289, x290, x291, x292, x293, x294, x295, x296, x297, x298, x299, x300, x301, x302, x303, x304, x305, x306, x307, x308, x309, x310, x311, x312, x313, x314, x315, x316, x317, x318, x319, x320, x321, x322, x323, x324, x325, x326, x327, x328, x329, x330, x331, x332, x333, x334, x335, x336, x337, x338, x339, x340, x341, x342, x343, x344, x345, x346, x347, x348, x349, x350, x351, x352, x353, x354, x355, x356, x357, x358, x359, x360, x361, x362, x363, x364, x365, x366, x367, x368, x369, x370, x371, x372, x373, x374, x375, x376, x377, x378, x379, x380, x381, x382, x383, x384, x385, x386, x387, x388, x389, x390, x391, x392, x393, x394, x395, x396, x397, x398, x399, x400, x401, x402, x403, x404, x405, x406, x407, x408, x409, .bool true, .slice A5 n5 c5, x412, x413, x414, x415, x416, x417, x418, x419, x420, x421, x422, x423, x424, x425, x426, x427, x428, x429, x430, x431, x432, x433, x434, x435, x436, x437], defers := [] } u := by
  have hl35 : l35 = _ := toArr_inj (region_is _ hops rfl)
  (refine kF.lastL (j := 84) (by rw [hl35]; rfl) (by rw [hl35]; kernel_rfl) (fun _ _ _ _ _ => Iff.rfl) (fun _ _ h1 h2 => below_S (Nat.le_refl _) h1 h2) (fun hSk K hK => ?_)
   rw [if_pos (by rw [hl35]; rfl)]
   (go_simp; refine (law17_d 98 _).mono ?_; rintro e x8 ⟨rfl, hb8⟩)
   refine hK.out _ _ (below_S (Nat.le_refl _) hSk hb8) ?_
   clear hK K
   try simp only [Act.put, List.setIfInBounds_toArray, List.set_cons_zero, List.set_cons_succ])
  clear hSk hb8
  (refine kF.lastL (j := 85) (by rw [hl35]; rfl) (by rw [hl35]; kernel_rfl) (fun _ _ _ _ _ => Iff.rfl) (fun _ _ h1 h2 => below_S (Nat.le_refl _) h1 h2) (fun hSk K hK => ?_)
   rw [if_pos (by rw [hl35]; rfl)]
   (go_simp; refine (law17_d 97 _).mono ?_; rintro e x9 ⟨rfl, hb9⟩)
   refine hK.out _ _ (below_S (Nat.le_refl _) hSk hb9) ?_
   clear hK K
   try simp only [Act.put, List.setIfInBounds_toArray, List.set_cons_zero, List.set_cons_succ])
  clear hSk
  (refine kF.lastL (j := 86) (by rw [hl35]; rfl) (by rw [hl35]; kernel_rfl) (fun _ _ _ _ _ => Iff.rfl) (fun _ _ h1 h2 => below_S (Nat.le_refl _) h1 h2) (fun hSk K hK => ?_)
   rw [if_pos (by rw [hl35]; rfl)]
   (go_simp; have hb86 : Below x9.heap.size x9 (x9.alloc (.cells #[.string (letterRoot 98), .string (letterRoot 97)] 9)) := (Below.refl _ _).alloc (Nat.le_refl _) _; have hx86 := heap_alloc_new x9 (.cells #[.string (letterRoot 98), .string (letterRoot 97)] 9))
   refine hK.out _ _ (below_S (Nat.le_refl _) hSk hb86) ?_
   clear hK K
   try simp only [Act.put, List.setIfInBounds_toArray, List.set_cons_zero, List.set_cons_succ])
  clear hSk hb9 hb86
  generalize x9.heap.size = bu86 at hx86 ⊢
  generalize x9.alloc (.cells #[.string (letterRoot 98), .string (letterRoot 97)] 9) = u86 at hx86 ⊢
  replace hx86 := Lib.hid hx86
  (refine kF.lastL (j := 87) (by rw [hl35]; rfl) (by rw [hl35]; kernel_rfl) (fun _ _ _ _ _ => Iff.rfl) (fun _ _ h1 h2 => below_S (Nat.le_refl _) h1 h2) (fun hSk K hK => ?_)
   rw [if_pos (by rw [hl35]; rfl)]
   (go_simp; have hr86 : StrsAt u86 u86.heap.size (some ⟨bu86, 0, none⟩) 2 [kB, kA] := rowHeap (k := 1) (enc := strCell) (l := [kB, kA]) (T := 9) (fun _ => rfl) hx86.out (by decide); have hd86 : StrsAt u86 u86.heap.size A5 n5 [kB, kA] := hD5.out u86 hSk; have cT := law17_texts A5 (some ⟨bu86, 0, none⟩) n5 2 c5 2 [kB, kA] [kB, kA] u86 hd86 hr86; rw [eqL_same] at cT; refine cT.mono ?_; clear cT hr86 hd86 hx86; rintro e x10 ⟨rfl, hb10⟩)
   refine hK.out _ _ (below_S (Nat.le_refl _) hSk hb10) ?_
   clear hK K
   try simp only [Act.put, List.setIfInBounds_toArray, List.set_cons_zero, List.set_cons_succ])
  clear hSk hb10
  (refine kF.takeN (i := 88) (v := ?_) hnoS hallF (by rw [hl35]; rfl) (by rw [hl35]; kernel_rfl) (by intro _ _ _ h; exact h) (Or.inl ⟨by rw [hl35]; rfl, ?_⟩) ?_
   rotate_left
   · (intro wS hSw; (try dsimp only at hSw); have hcS := fun b o (h : b < w.heap.size) => hSw.cell (p := ⟨b, o, none⟩) h; go_simp; (try with_reducible rfl))
   try simp only [Act.put, List.setIfInBounds_toArray, List.set_cons_zero, List.set_cons_succ])
  (refine kF.takeN (i := 89) (v := ?_) hnoS hallF (by rw [hl35]; rfl) (by rw [hl35]; kernel_rfl) (by intro _ _ _ h; exact h) (Or.inl ⟨by rw [hl35]; rfl, ?_⟩) ?_
   rotate_left
   · (intro wS hSw; (try dsimp only at hSw); have hcS := fun b o (h : b < w.heap.size) => hSw.cell (p := ⟨b, o, none⟩) h; go_simp; (try with_reducible rfl))
   try simp only [Act.put, List.setIfInBounds_toArray, List.set_cons_zero, List.set_cons_succ])
  (refine kF.takeN (i := 90) (v := ?_) hnoS hallF (by rw [hl35]; rfl) (by rw [hl35]; kernel_rfl) (by intro _ _ _ h; exact h) (Or.inl ⟨by rw [hl35]; rfl, ?_⟩) ?_
   rotate_left
   · (intro wS hSw; (try dsimp only at hSw); have hcS := fun b o (h : b < w.heap.size) => hSw.cell (p := ⟨b, o, none⟩) h; go_simp; (try with_reducible rfl))
   try simp only [Act.put, List.setIfInBounds_toArray, List.set_cons_zero, List.set_cons_succ])
  (refine kF.takeN (i := 91) (v := ?_) hnoS hallF (by rw [hl35]; rfl) (by rw [hl35]; kernel_rfl) (by intro _ _ _ h; exact h) (Or.inl ⟨by rw [hl35]; rfl, ?_⟩) ?_
   rotate_left
   · (intro wS hSw; (try dsimp only at hSw); have hcS := fun b o (h : b < w.heap.size) => hSw.cell (p := ⟨b, o, none⟩) h; go_simp; (try with_reducible rfl))
   try simp only [Act.put, List.setIfInBounds_toArray, List.set_cons_zero, List.set_cons_succ])
  (refine kF.takeN (i := 92) (v := ?_) hnoS hallF (by rw [hl35]; rfl) (by rw [hl35]; kernel_rfl) (by intro _ _ _ h; exact h) (Or.inl ⟨by rw [hl35]; rfl, ?_⟩) ?_
   rotate_left
   · (intro wS hSw; (try dsimp only at hSw); have hcS := fun b o (h : b < w.heap.size) => hSw.cell (p := ⟨b, o, none⟩) h; go_simp; (try with_reducible rfl))
   try simp only [Act.put, List.setIfInBounds_toArray, List.set_cons_zero, List.set_cons_succ])
  (refine kF.takeN (i := 93) (v := ?_) hnoS hallF (by rw [hl35]; rfl) (by rw [hl35]; kernel_rfl) (by intro _ _ _ h; exact h) (Or.inl ⟨by rw [hl35]; rfl, ?_⟩) ?_
   rotate_left
   · (intro wS hSw; (try dsimp only at hSw); have hcS := fun b o (h : b < w.heap.size) => hSw.cell (p := ⟨b, o, none⟩) h; go_simp; (try with_reducible rfl))
   try simp only [Act.put, List.setIfInBounds_toArray, List.set_cons_zero, List.set_cons_succ])
  (refine kF.takeN (i := 94) (v := ?_) hnoS hallF (by rw [hl35]; rfl) (by rw [hl35]; kernel_rfl) (by intro _ _ _ h; exact h) (Or.inl ⟨by rw [hl35]; rfl, ?_⟩) ?_
   rotate_left
   · (intro wS hSw; (try dsimp only at hSw); have hcS := fun b o (h : b < w.heap.size) => hSw.cell (p := ⟨b, o, none⟩) h; go_simp; (try with_reducible rfl))
   try simp only [Act.put, List.setIfInBounds_toArray, List.set_cons_zero, List.set_cons_succ])
  (refine kF.takeN (i := 95) (v := ?_) hnoS hallF (by rw [hl35]; rfl) (by rw [hl35]; kernel_rfl) (by intro _ _ _ h; exact h) (Or.inl ⟨by rw [hl35]; rfl, ?_⟩) ?_
   rotate_left
   · (intro wS hSw; (try dsimp only at hSw); have hcS := fun b o (h : b < w.heap.size) => hSw.cell (p := ⟨b, o, none⟩) h; go_simp; (try with_reducible rfl))
   try simp only [Act.put, List.setIfInBounds_toArray, List.set_cons_zero, List.set_cons_succ])
  (refine kF.takeN (i := 96) (v := ?_) hnoS hallF (by rw [hl35]; rfl) (by rw [hl35]; kernel_rfl) (by intro _ _ _ h; exact h) (Or.inl ⟨by rw [hl35]; rfl, ?_⟩) ?_
   rotate_left
   · (intro wS hSw; (try dsimp only at hSw); have hcS := fun b o (h : b < w.heap.size) => hSw.cell (p := ⟨b, o, none⟩) h; go_simp; (try with_reducible rfl))
   try simp only [Act.put, List.setIfInBounds_toArray, List.set_cons_zero, List.set_cons_succ])
  (refine kF.takeN (i := 97) (v := ?_) hnoS hallF (by rw [hl35]; rfl) (by rw [hl35]; kernel_rfl) (by intro _ _ _ h; exact h) (Or.inl ⟨by rw [hl35]; rfl, ?_⟩) ?_
   rotate_left
   · (intro wS hSw; (try dsimp only at hSw); have hcS := fun b o (h : b < w.heap.size) => hSw.cell (p := ⟨b, o, none⟩) h; go_simp; (try with_reducible rfl))
   try simp only [Act.put, List.setIfInBounds_toArray, List.set_cons_zero, List.set_cons_succ])
  (refine kF.takeN (i := 98) (v := ?_) hnoS hallF (by rw [hl35]; rfl) (by rw [hl35]; kernel_rfl) (by intro _ _ _ h; exact h) (Or.inl ⟨by rw [hl35]; rfl, ?_⟩) ?_
   rotate_left
   · (intro wS hSw; (try dsimp only at hSw); have hcS := fun b o (h : b < w.heap.size) => hSw.cell (p := ⟨b, o, none⟩) h; go_simp; (try with_reducible rfl))
   try simp only [Act.put, List.setIfInBounds_toArray, List.set_cons_zero, List.set_cons_succ])
  (refine kF.takeN (i := 99) (v := ?_) hnoS hallF (by rw [hl35]; rfl) (by rw [hl35]; kernel_rfl) (by intro _ _ _ h; exact h) (Or.inl ⟨by rw [hl35]; rfl, ?_⟩) ?_
   rotate_left
   · (intro wS hSw; (try dsimp only at hSw); have hcS := fun b o (h : b < w.heap.size) => hSw.cell (p := ⟨b, o, none⟩) h; go_simp; (try with_reducible rfl))
   try simp only [Act.put, List.setIfInBounds_toArray, List.set_cons_zero, List.set_cons_succ])
  (refine kF.takeN (i := 100) (v := ?_) hnoS hallF (by rw [hl35]; rfl) (by rw [hl35]; kernel_rfl) (by intro _ _ _ h; exact h) (Or.inl ⟨by rw [hl35]; rfl, ?_⟩) ?_
   rotate_left
   · (intro wS hSw; (try dsimp only at hSw); have hcS := fun b o (h : b < w.heap.size) => hSw.cell (p := ⟨b, o, none⟩) h; go_simp; (try with_reducible rfl))
   try simp only [Act.put, List.setIfInBounds_toArray, List.set_cons_zero, List.set_cons_succ])
  (refine kF.takeN (i := 101) (v := ?_) hnoS hallF (by rw [hl35]; rfl) (by rw [hl35]; kernel_rfl) (by intro _ _ _ h; exact h) (Or.inl ⟨by rw [hl35]; rfl, ?_⟩) ?_
   rotate_left
   · (intro wS hSw; (try dsimp only at hSw); have hcS := fun b o (h : b < w.heap.size) => hSw.cell (p := ⟨b, o, none⟩) h; go_simp; (try with_reducible rfl))
   try simp only [Act.put, List.setIfInBounds_toArray, List.set_cons_zero, List.set_cons_succ])
  (refine kF.takeN (i := 102) (v := ?_) hnoS hallF (by rw [hl35]; rfl) (by rw [hl35]; kernel_rfl) (by intro _ _ _ h; exact h) (Or.inl ⟨by rw [hl35]; rfl, ?_⟩) ?_
   rotate_left
   · (intro wS hSw; (try dsimp only at hSw); have hcS := fun b o (h : b < w.heap.size) => hSw.cell (p := ⟨b, o, none⟩) h; go_simp; (try with_reducible rfl))
   try simp only [Act.put, List.setIfInBounds_toArray, List.set_cons_zero, List.set_cons_succ])
  (refine kF.takeN (i := 103) (v := ?_) hnoS hallF (by rw [hl35]; rfl) (by rw [hl35]; kernel_rfl) (by intro _ _ _ h; exact h) (Or.inl ⟨by rw [hl35]; rfl, ?_⟩) ?_
   rotate_left
   · (intro wS hSw; (try dsimp only at hSw); have hcS := fun b o (h : b < w.heap.size) => hSw.cell (p := ⟨b, o, none⟩) h; go_simp; (try with_reducible rfl))
   try simp only [Act.put, List.setIfInBounds_toArray, List.set_cons_zero, List.set_cons_succ])
  (refine kF.takeN (i := 104) (v := ?_) hnoS hallF (by rw [hl35]; rfl) (by rw [hl35]; kernel_rfl) (by intro _ _ _ h; exact h) (Or.inl ⟨by rw [hl35]; rfl, ?_⟩) ?_
   rotate_left
   · (intro wS hSw; (try dsimp only at hSw); have hcS := fun b o (h : b < w.heap.size) => hSw.cell (p := ⟨b, o, none⟩) h; go_simp; (try with_reducible rfl))
   try simp only [Act.put, List.setIfInBounds_toArray, List.set_cons_zero, List.set_cons_succ])
  (refine kF.takeN (i := 105) (v := ?_) hnoS hallF (by rw [hl35]; rfl) (by rw [hl35]; kernel_rfl) (by intro _ _ _ h; exact h) (Or.inl ⟨by rw [hl35]; rfl, ?_⟩) ?_
   rotate_left
   · (intro wS hSw; (try dsimp only at hSw); have hcS := fun b o (h : b < w.heap.size) => hSw.cell (p := ⟨b, o, none⟩) h; go_simp; (try with_reducible rfl))
   try simp only [Act.put, List.setIfInBounds_toArray, List.set_cons_zero, List.set_cons_succ])
  (refine kF.lastL (j := 106) (by rw [hl35]; rfl) (by rw [hl35]; kernel_rfl) (fun _ _ _ _ _ => Iff.rfl) (fun _ _ h1 h2 => below_S (Nat.le_refl _) h1 h2) (fun hSk K hK => ?_)
   rw [if_pos (by rw [hl35]; rfl)]
   (go_simp; refine (law17_full 3 (by decide) _).mono ?_; rintro e x11 ⟨FA, fc, FB, fd, rfl, hst, hb11⟩; have hS11 := hSk.trans (hb11.mono hSk.size))
   refine hK.out _ _ (below_S (Nat.le_refl _) hSk hb11) ?_
   clear hK K
   try simp only [Act.put, List.setIfInBounds_toArray, List.set_cons_zero, List.set_cons_succ])
  clear hSk
  have hfd : ∀ W : World, (Instr.field 29 (.agg #[.int .i64 0, .int .i64 0, .int .i64 0, .slice none 0 0, .slice FA 3 fc, .slice FB 3 fd]) 3).run Try.prog W = .ok (.slice FA 3 fc) W := fun W => by kernel_rfl
  (refine kF.takeN (i := 107) (v := ?_) hnoS hallF (by rw [hl35]; rfl) (by rw [hl35]; kernel_rfl) (by intro _ _ _ h; exact h) (Or.inl ⟨by rw [hl35]; rfl, ?_⟩) ?_
   rotate_left
   · (intro wS hSw; (try dsimp only at hSw); have hcS := fun b o (h : b < w.heap.size) => hSw.cell (p := ⟨b, o, none⟩) h; go_simp; (try with_reducible rfl))
   try simp only [Act.put, List.setIfInBounds_toArray, List.set_cons_zero, List.set_cons_succ])
  clear hfd
  (refine kF.lastL (j := 108) (by rw [hl35]; rfl) (by rw [hl35]; kernel_rfl) (fun _ _ _ _ _ => Iff.rfl) (fun _ _ h1 h2 => below_S (Nat.le_refl _) h1 h2) (fun hSk K hK => ?_)
   rw [if_pos (by rw [hl35]; rfl)]
   (go_simp; have hd108 : StrsAt x11 x11.heap.size A7 n7 (fulCs 3) := hP7.out x11 hS11; have cT := law17_texts A7 FA n7 3 c7 fc (fulCs 3) (fulCs 3) x11 hd108 hst.cs; rw [eqL_same] at cT; refine cT.mono ?_; clear cT hd108 hst; rintro e x12 ⟨rfl, hb12⟩; have hS12 := hS11.trans (hb12.mono hS11.size))
   refine hK.out _ _ (below_S (Nat.le_refl _) hSk hb12) ?_
   clear hK K
   try simp only [Act.put, List.setIfInBounds_toArray, List.set_cons_zero, List.set_cons_succ])
  clear hSk
  (refine kF.takeN (i := 109) (v := ?_) hnoS hallF (by rw [hl35]; rfl) (by rw [hl35]; kernel_rfl) (by intro _ _ _ h; exact h) (Or.inl ⟨by rw [hl35]; rfl, ?_⟩) ?_
   rotate_left
   · (intro wS hSw; (try dsimp only at hSw); have hcS := fun b o (h : b < w.heap.size) => hSw.cell (p := ⟨b, o, none⟩) h; go_simp; (try with_reducible rfl))
   try simp only [Act.put, List.setIfInBounds_toArray, List.set_cons_zero, List.set_cons_succ])
  (refine kF.takeN (i := 110) (v := ?_) hnoS hallF (by rw [hl35]; rfl) (by rw [hl35]; kernel_rfl) (by intro _ _ _ h; exact h) (Or.inl ⟨by rw [hl35]; rfl, ?_⟩) ?_
   rotate_left
   · (intro wS hSw; (try dsimp only at hSw); have hcS := fun b o (h : b < w.heap.size) => hSw.cell (p := ⟨b, o, none⟩) h; go_simp; (try with_reducible rfl))
   try simp only [Act.put, List.setIfInBounds_toArray, List.set_cons_zero, List.set_cons_succ])
  refine kF.done (by rw [hl35]; kernel_rfl) ?_
  exact NoPanic.normal (hQ.out _ _ _ _ _ _ _ _ _ _ _ _ _ _ _ _ _ _ _ _ _ _ _ _ _ _ _ _ _ _ _ _ _ _ _ _ _ _ _ _ _ _ _ _ _ _ _ _ _ _ _ _ _ _ _ _ _ _ _ _ _ _ _ _ _ _ _ _ _ _ _ _ _ _ _ _ _ _ _ _ _ _ _ _ _ _ _ _ _ _ _ _ _ _ _ _ _ _ _ _ _ _ _ _ _ _ _ _ _ _ _ hS12)

set_option maxHeartbeats 32000000 in
set_option maxRecDepth 100000 in
theorem ix_last {Q : Exit → Act → World → Prop} {ops : Array Oper} (hops : (Try.f4.body.bind (regionOf 35)) = some ops) (w : World)
    (q6 q20 q24 gS gA gP n5 c5 b6 o6 c6 n7 c7 d1 bb ob d2 m3 d3 e1 k1 e2 k2 e3 k3 : Nat) (A5 A7 D1 D3 E1 E2 E3 : Option Addr)
    (x0 x1 x2 x3 x4 x5 x7 x8 x9 x10 x11 x12 x13 x14 x15 x16 x17 x18 x19 x22 x26 x28 x30 x32 x34 x36 x41 x42 x46 x47 x48 x49 x50 x51 x52 x53 x54 x55 x56 x57 x58 x59 x60 x61 x62 x63 x64 x65 x66 x67 x68 x69 x70 x71 x72 x73 x74 x75 x76 x77 x78 x79 x80 x81 x82 x83 x84 x85 x86 x87 x88 x89 x90 x91 x92 x93 x94 x95 x96 x97 x98 x99 x100 x101 x102 x103 x104 x105 x106 x107 x108 x109 x110 x111 x112 x113 x114 x115 x116 x117 x118 x119 x120 x121 x122 x123 x124 x125 x126 x127 x128 x129 x130 x131 x132 x133 x134 x135 x136 x137 x138 x139 x140 x141 x142 x143 x144 x145 x146 x147 x148 x149 x150 x151 x152 x153 x154 x155 x156 x157 x158 x159 x160 x161 x162 x163 x164 x165 x166 x167 x168 x169 x170 x171 x172 x173 x174 x175 x176 x177 x178 x179 x180 x181 x182 x183 x184 x185 x186 x187 x188 x189 x190 x191 x192 x193 x194 x195 x196 x197 x198 x199 x200 x201 x202 x203 x204 x205 x206 x207 x208 x209 x210 x211 x212 x213 x214 x215 x216 x217 x218 x219 x220 x221 x222 x223 x224 x225 x226 x227 x228 x229 x230 x231 x232 x233 x234 x235 x236 x237 x238 x239 x240 x241 x242 x243 x244 x245 x246 x247 x248 x249 x250 x251 x252 x253 x254 x255 x256 x257 x258 x259 x260 x261 x262 x263 x264 x265 x266 x267 x268 x269 x270 x271 x272 x273 x274 x275 x276 x277 x278 x279 x280 x281 x282 x283 x284 x285 x286 x287 x288 x289 x290 x291 x292 x293 x294 x295 x296 x297 x298 x299 x300 x301 x302 x303 x304 x305 x306 x307 x308 x309 x310 x311 x312 x313 x314 x315 x316 x317 x318 x319 x320 x321 x322 x323 x324 x325 x326 x327 x328 x329 x330 x331 x332 x333 x334 x335 x336 x337 x338 x339 x340 x341 x342 x343 x344 x345 x346 x347 x348 x349 x350 x351 x352 x353 x354 x355 x356 x357 x358 x359 x360 x361 x362 x363 x364 x365 x366 x367 x368 x369 x370 x371 x372 x373 x374 x375 x376 x377 x378 x379 x380 x381 x382 x383 x384 x385 x386 x387 x388 x389 x390 x391 x392 x393 x394 x395 x396 x397 x398 x399 x400 x401 x402 x403 x404 x405 x406 x407 x408 x409 x410 x411 x412 x413 x414 x415 x416 x417 x418 x419 x420 x421 x422 x423 x424 x425 x426 x427 x428 x429 x430 x431 x432 x433 x434 x435 x436 x437 : Value)
    (h6 : w.heap[q6]? = some (.cells #[.int .i64 1, .int .i64 2, .int .i64 7, .slice (some ⟨gS, 0, none⟩) 1 1, .slice (some ⟨gA, 0, none⟩) 2 2, .slice (some ⟨gP, 0, none⟩) 2 2] 29))
    (h20 : w.heap[q20]? = some (.cells #[.int .i64 1, .int .i64 2, .int .i64 7, .slice D1 1 d1, .slice (some ⟨bb, ob, none⟩) 1 d2, .slice D3 m3 d3] 29))
    (h24 : w.heap[q24]? = some (.cells #[.int .i64 1, .int .i64 2, .int .i64 7, .slice E1 e1 k1, .slice E2 e2 k2, .slice E3 e3 k3] 29))
    (hTw : StAt w w.heap.size (twoV gS gA gP) ixTwo) (hS24 : StAt w w.heap.size ⟨E1, e1, k1, E2, e2, k2, E3, e3, k3⟩ ixTwo)
    (lc : bb < w.heap.size) (cc : w.cell? ⟨bb, ob, none⟩ = some (.string kB)) (ld : b6 < w.heap.size) (cd : w.cell? ⟨b6, o6 + 1, none⟩ = some (.int .i64 0))
    (hD5 : StrsAt w w.heap.size A5 n5 [kB, kA]) (hP7 : StrsAt w w.heap.size A7 n7 (fulCs 3))
    (hQ : ∀ (y328 y329 y330 y331 y332 y333 y334 y335 y336 y337 y338 y339 y340 y341 y342 y343 y344 y345 y346 y347 y348 y349 y350 y351 y352 y353 y354 y355 y356 y357 y358 y359 y360 y361 y362 y363 y364 y365 y366 y367 y368 y369 y370 y371 y372 y373 y374 y375 y376 y377 y378 y379 y380 y381 y382 y383 y384 y385 y386 y387 y388 y389 y390 y391 y392 y393 y394 y395 y396 y397 y398 y399 y400 y401 y402 y403 y404 y405 y406 y407 y408 y409 y410 y411 y412 y413 y414 y415 y416 y417 y418 y419 y420 y421 y422 y423 y424 y425 y426 y427 y428 y429 y430 y431 y432 y433 y434 y435 y436 y437 : Value) (w' : World), Below w.heap.size w w' → Q .normal { tmps := #[.bool true, x1, x2, x3, x4, x5, .pointer (some ⟨q6, 0, none⟩), x7, x8, x9, x10, x11, x12, x13, x14, x15, x16, x17, x18, x19, .pointer (some ⟨q20, 0, none⟩), .int .i64 0, x22, .int .i64 5, .pointer (some ⟨q24, 0, none⟩), .int .i64 0, x26, .int .i64 1, x28, .int .i64 1, x30, .int .i64 6, x32, .int .i64 40, x34, .int .i64 0, x36, .int .i64 1, .slice A5 n5 c5, .slice (some ⟨b6, o6, none⟩) 2 c6, .int .i64 0, x41, x42, .int .i64 5, .slice A7 n7 c7, .int .i64 0, x46, x47, x48, x49, x50, x51, x52, x53, x54, x55, x56, x57, x58, x59, x60, x61, x62, x63, x64, x65, x66, x67, x68, x69, x70, x71, x72, x73, x74, x75, x76, x77, x78, x79, x80, x81, x82, x83, x84, x85, x86, x87, x88, x89, x90, x91, x92, x93, x94, x95, x96, x97, x98, x99, x100, x101, x102, x103, x104, x105, x106, x107, x108, x109, x110, x111, x112, x113, x114, x115, x116, x117, x118, x119, x120, x121, x122, x123, x124, x125, x126, x127, x128, x129, x130, x131, x132, x133, x134, x135, x136, x137, x138, x139, x140, x141, x142, x143, x144, x145, x146, x147, x148, x149, x150, x151, x152, x153, x154, x155, x156, x157, x158, x159, x160, x161, x162, x163, x164, x165, x166, x167, x168, x169, x170, x171, x172, x173, x174, x175, x176, x177, x178, x179, x180, x181, x182, x183, x184, x185, x186, x187, x188, x189, x190, x191, x192, x193, x194, x195, x196, x197, x198, x199, x200, x201, x202, x203, x204, x205, x206, x207, x208, x209, x210, x211, x212, x213, x214, x215, x216, x217, x218, x219, x220, x221, x222, x223, x224, x225, x226, x227, x228, x229, x230, x231, x232, x233, x234, x235, x236, x237, x238, x239, x240, x241, x242, x243, x244, x245, x246, x247, x248, x249, x250, x251, x252, x253, x254, x255, x256, x257, x258, x259, x260, x261, x262, x263, x264, x265, x266, x267, x268, x269, x270, x271, x272, x273, x274, x275, x276, x277, x278, x279, x280, x281, x282, x283, x284, x285, x286, x287, x288, x289, x290, x291, x292, x293, x294, x295, x296, x297, x298, x299, x300, x301, x302, x303, x304, x305, x306, x307, x308, x309, x310, x311, x312, x313, x314, x315, x316, x317, x318, x319, x320, x321, x322, x323, x324, x325, x326, x327, y328, y329, y330, y331, y332, y333, y334, y335, y336, y337, y338, y339, y340, y341, y342, y343, y344, y345, y346, y347, y348, y349, y350, y351, y352, y353, y354, y355, y356, y357, y358, y359, y360, y361, y362, y363, y364, y365, y366, y367, y368, y369, y370, y371, y372, y373, y374, y375, y376, y377, y378, y379, y380, y381, y382, y383, y384, y385, y386, y387, y388, y389, y390, y391, y392, y393, y394, y395, y396, y397, y398, y399, y400, y401, y402, y403, y404, y405, y406, y407, y408, y409, y410, y411, y412, y413, y414, y415, y416, y417, y418, y419, y420, y421, y422, y423, y424, y425, y426, y427, y428, y429, y430, y431, y432, y433, y434, y435, y436, y437], defers := [] } w') :
    (Code.region 35 ops true).wp Try.prog Q { tmps := #[x0, x1, x2, x3, x4, x5, .pointer (some ⟨q6, 0, none⟩), x7, x8, x9, x10, x11, x12, x13, x14, x15, x16, x17, x18, x19, .pointer (some ⟨q20, 0, none⟩), .int .i64 0, x22, .int .i64 5, .pointer (some ⟨q24, 0, none⟩), .int .i64 0, x26, .int .i64 1, x28, .int .i64 1, x30, .int .i64 6, x32, .int .i64 40, x34, .int .i64 0, x36, .int .i64 1, .slice A5 n5 c5, .slice (some ⟨b6, o6, none⟩) 2 c6, .int .i64 0, x41, x42, .int .i64 5, .slice A7 n7 c7, .int .i64 0, x46, x47, x48, x49, x50, x51, x52, x53, x54, x55, x56, x57, x58, x59, x60, x61, x62, x63, x64, x65, x66, x67, x68, x69, x70, x71, x72, x73, x74, x75, x76, x77, x78, x79, x80, x81, x82, x83, x84, x85, x86, x87, x88, x89, x90, x91, x92, x93, x94, x95, x96, x97, x98, x99, x100, x101, x102, x103, x104, x105, x106, x107, x108, x109, x110, x111, x112, x113, x114, x115, x116, x117, x118, x119, x120, x121, x122, x123, x124, x125, x126, x127, x128, x129, x130, x131, x132, x133, x134, x135, x136, x137, x138, x139, x140, x141, x142, x143, x144, x145, x146, x147, x148, x149, x150, x151, x152, x153, x154, x155, x156, x157, x158, x159, x160, x161, x162, x163, x164, x165, x166, x167, x168, x169, x170, x171, x172, x173, x174, x175, x176, x177, x178, x179, x180, x181, x182, x183, x184, x185, x186, x187, x188, x189, x190, x191, x192, x193, x194, x195, x196, x197, x198, x199, x200, x201, x202, x203, x204, x205, x206, x207, x208, x209, x210, x211, x212, x213, x214, x215, x216, x217, x218, x219, x220, x221, x222, x223, x224, x225, x226, x227, x228, x229, x230, x231, x232, x233, x234, x235, x236, x237, x238, x239, x240, x241, x242, x243, x244, x245, x246, x247, x248, x249, x250, x251, x252, x253, x254, x255, x256, x257, x258, x259, x260, x261, x262, x263, x264, x265, x266, x267, x268, x269, x270, x271, x272, x273, x274, x275, x276, x277, x278, x279, x280, x281, x282, x283, x284, x285, x286, x287, x288, x289, x290, x291, x292, x293, x294, x295, x296, x297, x298, x299, x300, x301, x302, x303, x304, x305, x306, x307, x308, x309, x310, x311, x312, x313, x314, x315, x316, x317, x318, x319, x320, x321, x322, x323, x324, x325, x326, x327, x328, x329, x330, x331, x332, x333, x334, x335, x336, x337, x338, x339, x340, x341, x342, x343, x344, x345, x346, x347, x348, x349, x350, x351, x352, x353, x354, x355, x356, x357, x358, x359, x360, x361, x362, x363, x364, x365, x366, x367, x368, x369, x370, x371, x372, x373, x374, x375, x376, x377, x378, x379, x380, x381, x382, x383, x384, x385, x386, x387, x388, x389, x390, x391, x392, x393, x394, x395, x396, x397, x398, x399, x400, x401, x402, x403, x404, x405, x406, x407, x408, x409, x410, x411, x412, x413, x414, x415, x416, x417, x418, x419, x420, x421, x422, x423, x424, x425, x426, x427, x428, x429, x430, x431, x432, x433, x434, x435, x436, x437], defers := [] } w := by
  obtain ⟨l35, hops0⟩ : ∃ l35 : List Oper, (Try.f4.body.bind (regionOf 35)) = some l35.toArray := ⟨_, rfl⟩
  have e0 := Option.some.inj (hops.symm.trans hops0)
  subst e0
  clear hops
  have hl35 : l35 = _ := toArr_inj (region_is _ hops0 rfl)
  obtain ⟨l6, y0, y1, y2, y3, y4, y5, -⟩ := box_cells h6
  obtain ⟨l7, r0, r1, r2, r3, r4, r5, -⟩ := box_cells h20
  obtain ⟨l8, t0, t1, t2, t3, t4, t5, -⟩ := box_cells h24
  clear h6 h20 h24
  replace hTw := Lib.hid fun W (hW : Below w.heap.size w W) => hTw.to hW
  replace hS24 := Lib.hid fun W (hW : Below w.heap.size w W) => hS24.to hW
  replace hD5 := Lib.hid fun W (hW : Below w.heap.size w W) => hD5.to hW
  replace hP7 := Lib.hid fun W (hW : Below w.heap.size w W) => hP7.to hW
  replace hQ := Lib.hid hQ
  refine wp_region_noPanic ?_
  refine region_krip (fun W : World => Below w.heap.size w W) (by kernel_rfl) ((Below.refl _ _).drew) ?_
  have hnoS : Region.noSelect l35.toArray = true := by rw [hl35]; kernel_rfl
  have hallF : allFree l35 = true := by rw [hl35]; kernel_rfl
  have hlen0 : l35.length = 111 := by rw [hl35]; kernel_rfl
  rw [hlen0]
  (refine kF.takeN (i := 0) (v := ?_) hnoS hallF (by rw [hl35]; rfl) (by rw [hl35]; kernel_rfl) (by intro _ _ _ h; exact h) (Or.inl ⟨by rw [hl35]; rfl, ?_⟩) ?_
   rotate_left
   · (intro wS hSw; (try dsimp only at hSw); have hcS := fun b o (h : b < w.heap.size) => hSw.cell (p := ⟨b, o, none⟩) h; go_simp; (try with_reducible rfl))
   try simp only [Act.put, List.setIfInBounds_toArray, List.set_cons_zero, List.set_cons_succ])
  (refine kF.lastL (j := 1) (by rw [hl35]; rfl) (by rw [hl35]; kernel_rfl) (fun _ _ _ _ _ => Iff.rfl) (fun _ _ h1 h2 => below_S (Nat.le_refl _) h1 h2) (fun hSk K hK => ?_)
   rw [if_pos (by rw [hl35]; rfl)]
   (go_simp; refine (any_May (s := ixTwo) (v := twoV gS gA gP) (hTw.out _ hSk) ixTwo_may).mono ?_; rintro e x3 ⟨rfl, hb3⟩)
   refine hK.out _ _ (below_S (Nat.le_refl _) hSk hb3) ?_
   clear hK K
   try simp only [Act.put, List.setIfInBounds_toArray, List.set_cons_zero, List.set_cons_succ])
  clear hSk
  (refine kF.takeN (i := 2) (v := ?_) hnoS hallF (by rw [hl35]; rfl) (by rw [hl35]; kernel_rfl) (by intro _ _ _ h; exact h) (Or.inl ⟨by rw [hl35]; rfl, ?_⟩) ?_
   rotate_left
   · (intro wS hSw; (try dsimp only at hSw); have hcS := fun b o (h : b < w.heap.size) => hSw.cell (p := ⟨b, o, none⟩) h; go_simp; (try with_reducible rfl))
   try simp only [Act.put, List.setIfInBounds_toArray, List.set_cons_zero, List.set_cons_succ])
  (refine kF.lastL (j := 3) (by rw [hl35]; rfl) (by rw [hl35]; kernel_rfl) (fun _ _ _ _ _ => Iff.rfl) (fun _ _ h1 h2 => below_S (Nat.le_refl _) h1 h2) (fun hSk K hK => ?_)
   rw [if_pos (by rw [hl35]; rfl)]
   (go_simp; refine (law17_full 400 (by decide) _).mono ?_; rintro e x4 ⟨FA, fc, FB, fd, rfl, hst, hb4⟩)
   refine hK.out _ _ (below_S (Nat.le_refl _) hSk hb4) ?_
   clear hK K
   try simp only [Act.put, List.setIfInBounds_toArray, List.set_cons_zero, List.set_cons_succ])
  clear hSk
  (refine kF.lastL (j := 4) (by rw [hl35]; rfl) (by rw [hl35]; kernel_rfl) (fun _ _ _ _ _ => Iff.rfl) (fun _ _ h1 h2 => below_S (Nat.le_refl _) h1 h2) (fun hSk K hK => ?_)
   rw [if_pos (by rw [hl35]; rfl)]
   (go_simp; refine (any_May (s := fulS 400) (v := ⟨none, 0, 0, FA, 400, fc, FB, 400, fd⟩) hst (ful_may 400 (by omega))).mono ?_; rintro e x5 ⟨rfl, hb5⟩)
   refine hK.out _ _ (below_S (Nat.le_refl _) hSk hb5) ?_
   clear hK K
   try simp only [Act.put, List.setIfInBounds_toArray, List.set_cons_zero, List.set_cons_succ])
  clear hst hb3 hb4 hb5
  clear hSk
  (refine kF.takeN (i := 5) (v := ?_) hnoS hallF (by rw [hl35]; rfl) (by rw [hl35]; kernel_rfl) (by intro _ _ _ h; exact h) (Or.inl ⟨by rw [hl35]; rfl, ?_⟩) ?_
   rotate_left
   · (intro wS hSw; (try dsimp only at hSw); have hcS := fun b o (h : b < w.heap.size) => hSw.cell (p := ⟨b, o, none⟩) h; go_simp; (try with_reducible rfl))
   try simp only [Act.put, List.setIfInBounds_toArray, List.set_cons_zero, List.set_cons_succ])
  (refine kF.takeN (i := 6) (v := ?_) hnoS hallF (by rw [hl35]; rfl) (by rw [hl35]; kernel_rfl) (by intro _ _ _ h; exact h) (Or.inl ⟨by rw [hl35]; rfl, ?_⟩) ?_
   rotate_left
   · (intro wS hSw; (try dsimp only at hSw); have hcS := fun b o (h : b < w.heap.size) => hSw.cell (p := ⟨b, o, none⟩) h; go_simp; (try with_reducible rfl))
   try simp only [Act.put, List.setIfInBounds_toArray, List.set_cons_zero, List.set_cons_succ])
  (refine kF.takeN (i := 7) (v := ?_) hnoS hallF (by rw [hl35]; rfl) (by rw [hl35]; kernel_rfl) (by intro _ _ _ h; exact h) (Or.inl ⟨by rw [hl35]; rfl, ?_⟩) ?_
   rotate_left
   · (intro wS hSw; (try dsimp only at hSw); have hcS := fun b o (h : b < w.heap.size) => hSw.cell (p := ⟨b, o, none⟩) h; go_simp; (try with_reducible rfl))
   try simp only [Act.put, List.setIfInBounds_toArray, List.set_cons_zero, List.set_cons_succ])
  (refine kF.takeN (i := 8) (v := ?_) hnoS hallF (by rw [hl35]; rfl) (by rw [hl35]; kernel_rfl) (by intro _ _ _ h; exact h) (Or.inl ⟨by rw [hl35]; rfl, ?_⟩) ?_
   rotate_left
   · (intro wS hSw; (try dsimp only at hSw); have hcS := fun b o (h : b < w.heap.size) => hSw.cell (p := ⟨b, o, none⟩) h; go_simp; (try with_reducible rfl))
   try simp only [Act.put, List.setIfInBounds_toArray, List.set_cons_zero, List.set_cons_succ])
  (refine kF.takeN (i := 9) (v := ?_) hnoS hallF (by rw [hl35]; rfl) (by rw [hl35]; kernel_rfl) (by intro _ _ _ h; exact h) (Or.inl ⟨by rw [hl35]; rfl, ?_⟩) ?_
   rotate_left
   · (intro wS hSw; (try dsimp only at hSw); have hcS := fun b o (h : b < w.heap.size) => hSw.cell (p := ⟨b, o, none⟩) h; go_simp; (try with_reducible rfl))
   try simp only [Act.put, List.setIfInBounds_toArray, List.set_cons_zero, List.set_cons_succ])
  (refine kF.takeN (i := 10) (v := ?_) hnoS hallF (by rw [hl35]; rfl) (by rw [hl35]; kernel_rfl) (by intro _ _ _ h; exact h) (Or.inl ⟨by rw [hl35]; rfl, ?_⟩) ?_
   rotate_left
   · (intro wS hSw; (try dsimp only at hSw); have hcS := fun b o (h : b < w.heap.size) => hSw.cell (p := ⟨b, o, none⟩) h; go_simp; (try with_reducible rfl))
   try simp only [Act.put, List.setIfInBounds_toArray, List.set_cons_zero, List.set_cons_succ])
  (refine kF.takeN (i := 11) (v := ?_) hnoS hallF (by rw [hl35]; rfl) (by rw [hl35]; kernel_rfl) (by intro _ _ _ h; exact h) (Or.inl ⟨by rw [hl35]; rfl, ?_⟩) ?_
   rotate_left
   · (intro wS hSw; (try dsimp only at hSw); have hcS := fun b o (h : b < w.heap.size) => hSw.cell (p := ⟨b, o, none⟩) h; go_simp; (try with_reducible rfl))
   try simp only [Act.put, List.setIfInBounds_toArray, List.set_cons_zero, List.set_cons_succ])
  (refine kF.takeN (i := 12) (v := ?_) hnoS hallF (by rw [hl35]; rfl) (by rw [hl35]; kernel_rfl) (by intro _ _ _ h; exact h) (Or.inl ⟨by rw [hl35]; rfl, ?_⟩) ?_
   rotate_left
   · (intro wS hSw; (try dsimp only at hSw); have hcS := fun b o (h : b < w.heap.size) => hSw.cell (p := ⟨b, o, none⟩) h; go_simp; (try with_reducible rfl))
   try simp only [Act.put, List.setIfInBounds_toArray, List.set_cons_zero, List.set_cons_succ])
  (refine kF.takeN (i := 13) (v := ?_) hnoS hallF (by rw [hl35]; rfl) (by rw [hl35]; kernel_rfl) (by intro _ _ _ h; exact h) (Or.inl ⟨by rw [hl35]; rfl, ?_⟩) ?_
   rotate_left
   · (intro wS hSw; (try dsimp only at hSw); have hcS := fun b o (h : b < w.heap.size) => hSw.cell (p := ⟨b, o, none⟩) h; go_simp; (try with_reducible rfl))
   try simp only [Act.put, List.setIfInBounds_toArray, List.set_cons_zero, List.set_cons_succ])
  (refine kF.takeN (i := 14) (v := ?_) hnoS hallF (by rw [hl35]; rfl) (by rw [hl35]; kernel_rfl) (by intro _ _ _ h; exact h) (Or.inl ⟨by rw [hl35]; rfl, ?_⟩) ?_
   rotate_left
   · (intro wS hSw; (try dsimp only at hSw); have hcS := fun b o (h : b < w.heap.size) => hSw.cell (p := ⟨b, o, none⟩) h; go_simp; (try with_reducible rfl))
   try simp only [Act.put, List.setIfInBounds_toArray, List.set_cons_zero, List.set_cons_succ])
  (refine kF.takeN (i := 15) (v := ?_) hnoS hallF (by rw [hl35]; rfl) (by rw [hl35]; kernel_rfl) (by intro _ _ _ h; exact h) (Or.inl ⟨by rw [hl35]; rfl, ?_⟩) ?_
   rotate_left
   · (intro wS hSw; (try dsimp only at hSw); have hcS := fun b o (h : b < w.heap.size) => hSw.cell (p := ⟨b, o, none⟩) h; go_simp; (try with_reducible rfl))
   try simp only [Act.put, List.setIfInBounds_toArray, List.set_cons_zero, List.set_cons_succ])
  (refine kF.takeN (i := 16) (v := ?_) hnoS hallF (by rw [hl35]; rfl) (by rw [hl35]; kernel_rfl) (by intro _ _ _ h; exact h) (Or.inl ⟨by rw [hl35]; rfl, ?_⟩) ?_
   rotate_left
   · (intro wS hSw; (try dsimp only at hSw); have hcS := fun b o (h : b < w.heap.size) => hSw.cell (p := ⟨b, o, none⟩) h; go_simp; (try with_reducible rfl))
   try simp only [Act.put, List.setIfInBounds_toArray, List.set_cons_zero, List.set_cons_succ])
  (refine kF.takeN (i := 17) (v := ?_) hnoS hallF (by rw [hl35]; rfl) (by rw [hl35]; kernel_rfl) (by intro _ _ _ h; exact h) (Or.inl ⟨by rw [hl35]; rfl, ?_⟩) ?_
   rotate_left
   · (intro wS hSw; (try dsimp only at hSw); have hcS := fun b o (h : b < w.heap.size) => hSw.cell (p := ⟨b, o, none⟩) h; go_simp; (try with_reducible rfl))
   try simp only [Act.put, List.setIfInBounds_toArray, List.set_cons_zero, List.set_cons_succ])
  (refine kF.takeN (i := 18) (v := ?_) hnoS hallF (by rw [hl35]; rfl) (by rw [hl35]; kernel_rfl) (by intro _ _ _ h; exact h) (Or.inl ⟨by rw [hl35]; rfl, ?_⟩) ?_
   rotate_left
   · (intro wS hSw; (try dsimp only at hSw); have hcS := fun b o (h : b < w.heap.size) => hSw.cell (p := ⟨b, o, none⟩) h; go_simp; (try with_reducible rfl))
   try simp only [Act.put, List.setIfInBounds_toArray, List.set_cons_zero, List.set_cons_succ])
  (refine kF.takeN (i := 19) (v := ?_) hnoS hallF (by rw [hl35]; rfl) (by rw [hl35]; kernel_rfl) (by intro _ _ _ h; exact h) (Or.inl ⟨by rw [hl35]; rfl, ?_⟩) ?_
   rotate_left
   · (intro wS hSw; (try dsimp only at hSw); have hcS := fun b o (h : b < w.heap.size) => hSw.cell (p := ⟨b, o, none⟩) h; go_simp; (try with_reducible rfl))
   try simp only [Act.put, List.setIfInBounds_toArray, List.set_cons_zero, List.set_cons_succ])
  (refine kF.takeN (i := 20) (v := ?_) hnoS hallF (by rw [hl35]; rfl) (by rw [hl35]; kernel_rfl) (by intro _ _ _ h; exact h) (Or.inl ⟨by rw [hl35]; rfl, ?_⟩) ?_
   rotate_left
   · (intro wS hSw; (try dsimp only at hSw); have hcS := fun b o (h : b < w.heap.size) => hSw.cell (p := ⟨b, o, none⟩) h; go_simp; (try with_reducible rfl))
   try simp only [Act.put, List.setIfInBounds_toArray, List.set_cons_zero, List.set_cons_succ])
  (refine kF.lastL (j := 21) (by rw [hl35]; rfl) (by rw [hl35]; kernel_rfl) (fun _ _ _ _ _ => Iff.rfl) (fun _ _ h1 h2 => below_S (Nat.le_refl _) h1 h2) (fun hSk K hK => ?_)
   rw [if_pos (by rw [hl35]; rfl)]
   (go_simp; refine (law17_d 98 _).mono ?_; rintro e x6 ⟨rfl, hb6⟩)
   refine hK.out _ _ (below_S (Nat.le_refl _) hSk hb6) ?_
   clear hK K
   try simp only [Act.put, List.setIfInBounds_toArray, List.set_cons_zero, List.set_cons_succ])
  clear hSk hb6
  (refine kF.takeN (i := 22) (v := ?_) hnoS hallF (by rw [hl35]; rfl) (by rw [hl35]; kernel_rfl) (by intro _ _ _ h; exact h) (Or.inl ⟨by rw [hl35]; rfl, ?_⟩) ?_
   rotate_left
   · (intro wS hSw; (try dsimp only at hSw); have hcS := fun b o (h : b < w.heap.size) => hSw.cell (p := ⟨b, o, none⟩) h; go_simp; (try with_reducible rfl))
   try simp only [Act.put, List.setIfInBounds_toArray, List.set_cons_zero, List.set_cons_succ])
  (refine kF.takeN (i := 23) (v := ?_) hnoS hallF (by rw [hl35]; rfl) (by rw [hl35]; kernel_rfl) (by intro _ _ _ h; exact h) (Or.inl ⟨by rw [hl35]; rfl, ?_⟩) ?_
   rotate_left
   · (intro wS hSw; (try dsimp only at hSw); have hcS := fun b o (h : b < w.heap.size) => hSw.cell (p := ⟨b, o, none⟩) h; go_simp; (try with_reducible rfl))
   try simp only [Act.put, List.setIfInBounds_toArray, List.set_cons_zero, List.set_cons_succ])
  (refine kF.takeN (i := 24) (v := ?_) hnoS hallF (by rw [hl35]; rfl) (by rw [hl35]; kernel_rfl) (by intro _ _ _ h; exact h) (Or.inl ⟨by rw [hl35]; rfl, ?_⟩) ?_
   rotate_left
   · (intro wS hSw; (try dsimp only at hSw); have hcS := fun b o (h : b < w.heap.size) => hSw.cell (p := ⟨b, o, none⟩) h; go_simp; (try with_reducible rfl))
   try simp only [Act.put, List.setIfInBounds_toArray, List.set_cons_zero, List.set_cons_succ])
  (refine kF.takeN (i := 25) (v := ?_) hnoS hallF (by rw [hl35]; rfl) (by rw [hl35]; kernel_rfl) (by intro _ _ _ h; exact h) (Or.inl ⟨by rw [hl35]; rfl, ?_⟩) ?_
   rotate_left
   · (intro wS hSw; (try dsimp only at hSw); have hcS := fun b o (h : b < w.heap.size) => hSw.cell (p := ⟨b, o, none⟩) h; go_simp; (try with_reducible rfl))
   try simp only [Act.put, List.setIfInBounds_toArray, List.set_cons_zero, List.set_cons_succ])
  (refine kF.takeN (i := 26) (v := ?_) hnoS hallF (by rw [hl35]; rfl) (by rw [hl35]; kernel_rfl) (by intro _ _ _ h; exact h) (Or.inl ⟨by rw [hl35]; rfl, ?_⟩) ?_
   rotate_left
   · (intro wS hSw; (try dsimp only at hSw); have hcS := fun b o (h : b < w.heap.size) => hSw.cell (p := ⟨b, o, none⟩) h; go_simp; (try with_reducible rfl))
   try simp only [Act.put, List.setIfInBounds_toArray, List.set_cons_zero, List.set_cons_succ])
  (refine kF.takeN (i := 27) (v := ?_) hnoS hallF (by rw [hl35]; rfl) (by rw [hl35]; kernel_rfl) (by intro _ _ _ h; exact h) (Or.inl ⟨by rw [hl35]; rfl, ?_⟩) ?_
   rotate_left
   · (intro wS hSw; (try dsimp only at hSw); have hcS := fun b o (h : b < w.heap.size) => hSw.cell (p := ⟨b, o, none⟩) h; go_simp; (try with_reducible rfl))
   try simp only [Act.put, List.setIfInBounds_toArray, List.set_cons_zero, List.set_cons_succ])
  (refine kF.takeN (i := 28) (v := ?_) hnoS hallF (by rw [hl35]; rfl) (by rw [hl35]; kernel_rfl) (by intro _ _ _ h; exact h) (Or.inl ⟨by rw [hl35]; rfl, ?_⟩) ?_
   rotate_left
   · (intro wS hSw; (try dsimp only at hSw); have hcS := fun b o (h : b < w.heap.size) => hSw.cell (p := ⟨b, o, none⟩) h; go_simp; (try with_reducible rfl))
   try simp only [Act.put, List.setIfInBounds_toArray, List.set_cons_zero, List.set_cons_succ])
  (refine kF.takeN (i := 29) (v := ?_) hnoS hallF (by rw [hl35]; rfl) (by rw [hl35]; kernel_rfl) (by intro _ _ _ h; exact h) (Or.inl ⟨by rw [hl35]; rfl, ?_⟩) ?_
   rotate_left
   · (intro wS hSw; (try dsimp only at hSw); have hcS := fun b o (h : b < w.heap.size) => hSw.cell (p := ⟨b, o, none⟩) h; go_simp; (try with_reducible rfl))
   try simp only [Act.put, List.setIfInBounds_toArray, List.set_cons_zero, List.set_cons_succ])
  (refine kF.takeN (i := 30) (v := ?_) hnoS hallF (by rw [hl35]; rfl) (by rw [hl35]; kernel_rfl) (by intro _ _ _ h; exact h) (Or.inl ⟨by rw [hl35]; rfl, ?_⟩) ?_
   rotate_left
   · (intro wS hSw; (try dsimp only at hSw); have hcS := fun b o (h : b < w.heap.size) => hSw.cell (p := ⟨b, o, none⟩) h; go_simp; (try with_reducible rfl))
   try simp only [Act.put, List.setIfInBounds_toArray, List.set_cons_zero, List.set_cons_succ])
  (refine kF.takeN (i := 31) (v := ?_) hnoS hallF (by rw [hl35]; rfl) (by rw [hl35]; kernel_rfl) (by intro _ _ _ h; exact h) (Or.inl ⟨by rw [hl35]; rfl, ?_⟩) ?_
   rotate_left
   · (intro wS hSw; (try dsimp only at hSw); have hcS := fun b o (h : b < w.heap.size) => hSw.cell (p := ⟨b, o, none⟩) h; go_simp; (try with_reducible rfl))
   try simp only [Act.put, List.setIfInBounds_toArray, List.set_cons_zero, List.set_cons_succ])
  (refine kF.takeN (i := 32) (v := ?_) hnoS hallF (by rw [hl35]; rfl) (by rw [hl35]; kernel_rfl) (by intro _ _ _ h; exact h) (Or.inl ⟨by rw [hl35]; rfl, ?_⟩) ?_
   rotate_left
   · (intro wS hSw; (try dsimp only at hSw); have hcS := fun b o (h : b < w.heap.size) => hSw.cell (p := ⟨b, o, none⟩) h; go_simp; (try with_reducible rfl))
   try simp only [Act.put, List.setIfInBounds_toArray, List.set_cons_zero, List.set_cons_succ])
  (refine kF.takeN (i := 33) (v := ?_) hnoS hallF (by rw [hl35]; rfl) (by rw [hl35]; kernel_rfl) (by intro _ _ _ h; exact h) (Or.inl ⟨by rw [hl35]; rfl, ?_⟩) ?_
   rotate_left
   · (intro wS hSw; (try dsimp only at hSw); have hcS := fun b o (h : b < w.heap.size) => hSw.cell (p := ⟨b, o, none⟩) h; go_simp; (try with_reducible rfl))
   try simp only [Act.put, List.setIfInBounds_toArray, List.set_cons_zero, List.set_cons_succ])
  (refine kF.takeN (i := 34) (v := ?_) hnoS hallF (by rw [hl35]; rfl) (by rw [hl35]; kernel_rfl) (by intro _ _ _ h; exact h) (Or.inl ⟨by rw [hl35]; rfl, ?_⟩) ?_
   rotate_left
   · (intro wS hSw; (try dsimp only at hSw); have hcS := fun b o (h : b < w.heap.size) => hSw.cell (p := ⟨b, o, none⟩) h; go_simp; (try with_reducible rfl))
   try simp only [Act.put, List.setIfInBounds_toArray, List.set_cons_zero, List.set_cons_succ])
  (refine kF.takeN (i := 35) (v := ?_) hnoS hallF (by rw [hl35]; rfl) (by rw [hl35]; kernel_rfl) (by intro _ _ _ h; exact h) (Or.inl ⟨by rw [hl35]; rfl, ?_⟩) ?_
   rotate_left
   · (intro wS hSw; (try dsimp only at hSw); have hcS := fun b o (h : b < w.heap.size) => hSw.cell (p := ⟨b, o, none⟩) h; go_simp; (try with_reducible rfl))
   try simp only [Act.put, List.setIfInBounds_toArray, List.set_cons_zero, List.set_cons_succ])
  (refine kF.takeN (i := 36) (v := ?_) hnoS hallF (by rw [hl35]; rfl) (by rw [hl35]; kernel_rfl) (by intro _ _ _ h; exact h) (Or.inl ⟨by rw [hl35]; rfl, ?_⟩) ?_
   rotate_left
   · (intro wS hSw; (try dsimp only at hSw); have hcS := fun b o (h : b < w.heap.size) => hSw.cell (p := ⟨b, o, none⟩) h; go_simp; (try with_reducible rfl))
   try simp only [Act.put, List.setIfInBounds_toArray, List.set_cons_zero, List.set_cons_succ])
  (refine kF.takeN (i := 37) (v := ?_) hnoS hallF (by rw [hl35]; rfl) (by rw [hl35]; kernel_rfl) (by intro _ _ _ h; exact h) (Or.inl ⟨by rw [hl35]; rfl, ?_⟩) ?_
   rotate_left
   · (intro wS hSw; (try dsimp only at hSw); have hcS := fun b o (h : b < w.heap.size) => hSw.cell (p := ⟨b, o, none⟩) h; go_simp; (try with_reducible rfl))
   try simp only [Act.put, List.setIfInBounds_toArray, List.set_cons_zero, List.set_cons_succ])
  (refine kF.takeN (i := 38) (v := ?_) hnoS hallF (by rw [hl35]; rfl) (by rw [hl35]; kernel_rfl) (by intro _ _ _ h; exact h) (Or.inl ⟨by rw [hl35]; rfl, ?_⟩) ?_
   rotate_left
   · (intro wS hSw; (try dsimp only at hSw); have hcS := fun b o (h : b < w.heap.size) => hSw.cell (p := ⟨b, o, none⟩) h; go_simp; (try with_reducible rfl))
   try simp only [Act.put, List.setIfInBounds_toArray, List.set_cons_zero, List.set_cons_succ])
  (refine kF.takeN (i := 39) (v := ?_) hnoS hallF (by rw [hl35]; rfl) (by rw [hl35]; kernel_rfl) (by intro _ _ _ h; exact h) (Or.inl ⟨by rw [hl35]; rfl, ?_⟩) ?_
   rotate_left
   · (intro wS hSw; (try dsimp only at hSw); have hcS := fun b o (h : b < w.heap.size) => hSw.cell (p := ⟨b, o, none⟩) h; go_simp; (try with_reducible rfl))
   try simp only [Act.put, List.setIfInBounds_toArray, List.set_cons_zero, List.set_cons_succ])
  (refine kF.takeN (i := 40) (v := ?_) hnoS hallF (by rw [hl35]; rfl) (by rw [hl35]; kernel_rfl) (by intro _ _ _ h; exact h) (Or.inl ⟨by rw [hl35]; rfl, ?_⟩) ?_
   rotate_left
   · (intro wS hSw; (try dsimp only at hSw); have hcS := fun b o (h : b < w.heap.size) => hSw.cell (p := ⟨b, o, none⟩) h; go_simp; (try with_reducible rfl))
   try simp only [Act.put, List.setIfInBounds_toArray, List.set_cons_zero, List.set_cons_succ])
  (refine kF.takeN (i := 41) (v := ?_) hnoS hallF (by rw [hl35]; rfl) (by rw [hl35]; kernel_rfl) (by intro _ _ _ h; exact h) (Or.inl ⟨by rw [hl35]; rfl, ?_⟩) ?_
   rotate_left
   · (intro wS hSw; (try dsimp only at hSw); have hcS := fun b o (h : b < w.heap.size) => hSw.cell (p := ⟨b, o, none⟩) h; go_simp; (try with_reducible rfl))
   try simp only [Act.put, List.setIfInBounds_toArray, List.set_cons_zero, List.set_cons_succ])
  (refine kF.takeN (i := 42) (v := ?_) hnoS hallF (by rw [hl35]; rfl) (by rw [hl35]; kernel_rfl) (by intro _ _ _ h; exact h) (Or.inl ⟨by rw [hl35]; rfl, ?_⟩) ?_
   rotate_left
   · (intro wS hSw; (try dsimp only at hSw); have hcS := fun b o (h : b < w.heap.size) => hSw.cell (p := ⟨b, o, none⟩) h; go_simp; (try with_reducible rfl))
   try simp only [Act.put, List.setIfInBounds_toArray, List.set_cons_zero, List.set_cons_succ])
  (refine kF.takeN (i := 43) (v := ?_) hnoS hallF (by rw [hl35]; rfl) (by rw [hl35]; kernel_rfl) (by intro _ _ _ h; exact h) (Or.inl ⟨by rw [hl35]; rfl, ?_⟩) ?_
   rotate_left
   · (intro wS hSw; (try dsimp only at hSw); have hcS := fun b o (h : b < w.heap.size) => hSw.cell (p := ⟨b, o, none⟩) h; go_simp; (try with_reducible rfl))
   try simp only [Act.put, List.setIfInBounds_toArray, List.set_cons_zero, List.set_cons_succ])
  (refine kF.takeN (i := 44) (v := ?_) hnoS hallF (by rw [hl35]; rfl) (by rw [hl35]; kernel_rfl) (by intro _ _ _ h; exact h) (Or.inl ⟨by rw [hl35]; rfl, ?_⟩) ?_
   rotate_left
   · (intro wS hSw; (try dsimp only at hSw); have hcS := fun b o (h : b < w.heap.size) => hSw.cell (p := ⟨b, o, none⟩) h; go_simp; (try with_reducible rfl))
   try simp only [Act.put, List.setIfInBounds_toArray, List.set_cons_zero, List.set_cons_succ])
  (refine kF.takeN (i := 45) (v := ?_) hnoS hallF (by rw [hl35]; rfl) (by rw [hl35]; kernel_rfl) (by intro _ _ _ h; exact h) (Or.inl ⟨by rw [hl35]; rfl, ?_⟩) ?_
   rotate_left
   · (intro wS hSw; (try dsimp only at hSw); have hcS := fun b o (h : b < w.heap.size) => hSw.cell (p := ⟨b, o, none⟩) h; go_simp; (try with_reducible rfl))
   try simp only [Act.put, List.setIfInBounds_toArray, List.set_cons_zero, List.set_cons_succ])
  (refine kF.takeN (i := 46) (v := ?_) hnoS hallF (by rw [hl35]; rfl) (by rw [hl35]; kernel_rfl) (by intro _ _ _ h; exact h) (Or.inl ⟨by rw [hl35]; rfl, ?_⟩) ?_
   rotate_left
   · (intro wS hSw; (try dsimp only at hSw); have hcS := fun b o (h : b < w.heap.size) => hSw.cell (p := ⟨b, o, none⟩) h; go_simp; (try with_reducible rfl))
   try simp only [Act.put, List.setIfInBounds_toArray, List.set_cons_zero, List.set_cons_succ])
  (refine kF.takeN (i := 47) (v := ?_) hnoS hallF (by rw [hl35]; rfl) (by rw [hl35]; kernel_rfl) (by intro _ _ _ h; exact h) (Or.inl ⟨by rw [hl35]; rfl, ?_⟩) ?_
   rotate_left
   · (intro wS hSw; (try dsimp only at hSw); have hcS := fun b o (h : b < w.heap.size) => hSw.cell (p := ⟨b, o, none⟩) h; go_simp; (try with_reducible rfl))
   try simp only [Act.put, List.setIfInBounds_toArray, List.set_cons_zero, List.set_cons_succ])
  (refine kF.takeN (i := 48) (v := ?_) hnoS hallF (by rw [hl35]; rfl) (by rw [hl35]; kernel_rfl) (by intro _ _ _ h; exact h) (Or.inl ⟨by rw [hl35]; rfl, ?_⟩) ?_
   rotate_left
   · (intro wS hSw; (try dsimp only at hSw); have hcS := fun b o (h : b < w.heap.size) => hSw.cell (p := ⟨b, o, none⟩) h; go_simp; (try with_reducible rfl))
   try simp only [Act.put, List.setIfInBounds_toArray, List.set_cons_zero, List.set_cons_succ])
  (refine kF.takeN (i := 49) (v := ?_) hnoS hallF (by rw [hl35]; rfl) (by rw [hl35]; kernel_rfl) (by intro _ _ _ h; exact h) (Or.inl ⟨by rw [hl35]; rfl, ?_⟩) ?_
   rotate_left
   · (intro wS hSw; (try dsimp only at hSw); have hcS := fun b o (h : b < w.heap.size) => hSw.cell (p := ⟨b, o, none⟩) h; go_simp; (try with_reducible rfl))
   try simp only [Act.put, List.setIfInBounds_toArray, List.set_cons_zero, List.set_cons_succ])
  (refine kF.takeN (i := 50) (v := ?_) hnoS hallF (by rw [hl35]; rfl) (by rw [hl35]; kernel_rfl) (by intro _ _ _ h; exact h) (Or.inl ⟨by rw [hl35]; rfl, ?_⟩) ?_
   rotate_left
   · (intro wS hSw; (try dsimp only at hSw); have hcS := fun b o (h : b < w.heap.size) => hSw.cell (p := ⟨b, o, none⟩) h; go_simp; (try with_reducible rfl))
   try simp only [Act.put, List.setIfInBounds_toArray, List.set_cons_zero, List.set_cons_succ])
  (refine kF.takeN (i := 51) (v := ?_) hnoS hallF (by rw [hl35]; rfl) (by rw [hl35]; kernel_rfl) (by intro _ _ _ h; exact h) (Or.inl ⟨by rw [hl35]; rfl, ?_⟩) ?_
   rotate_left
   · (intro wS hSw; (try dsimp only at hSw); have hcS := fun b o (h : b < w.heap.size) => hSw.cell (p := ⟨b, o, none⟩) h; go_simp; (try with_reducible rfl))
   try simp only [Act.put, List.setIfInBounds_toArray, List.set_cons_zero, List.set_cons_succ])
  (refine kF.lastL (j := 52) (by rw [hl35]; rfl) (by rw [hl35]; kernel_rfl) (fun _ _ _ _ _ => Iff.rfl) (fun _ _ h1 h2 => below_S (Nat.le_refl _) h1 h2) (fun hSk K hK => ?_)
   rw [if_pos (by rw [hl35]; rfl)]
   (go_simp; have cT := ref17_Same _ (twoV gS gA gP) ixTwo ixTwo _ (hS24.out _ hSk) (hTw.out _ hSk); rw [sameSt_self] at cT; refine cT.mono ?_; rintro e x7 ⟨rfl, hb7⟩; clear cT)
   refine hK.out _ _ (below_S (Nat.le_refl _) hSk hb7) ?_
   clear hK K
   try simp only [Act.put, List.setIfInBounds_toArray, List.set_cons_zero, List.set_cons_succ])
  clear hSk hb7
  (refine kF.takeN (i := 53) (v := ?_) hnoS hallF (by rw [hl35]; rfl) (by rw [hl35]; kernel_rfl) (by intro _ _ _ h; exact h) (Or.inl ⟨by rw [hl35]; rfl, ?_⟩) ?_
   rotate_left
   · (intro wS hSw; (try dsimp only at hSw); have hcS := fun b o (h : b < w.heap.size) => hSw.cell (p := ⟨b, o, none⟩) h; go_simp; (try with_reducible rfl))
   try simp only [Act.put, List.setIfInBounds_toArray, List.set_cons_zero, List.set_cons_succ])
  (refine kF.takeN (i := 54) (v := ?_) hnoS hallF (by rw [hl35]; rfl) (by rw [hl35]; kernel_rfl) (by intro _ _ _ h; exact h) (Or.inl ⟨by rw [hl35]; rfl, ?_⟩) ?_
   rotate_left
   · (intro wS hSw; (try dsimp only at hSw); have hcS := fun b o (h : b < w.heap.size) => hSw.cell (p := ⟨b, o, none⟩) h; go_simp; (try with_reducible rfl))
   try simp only [Act.put, List.setIfInBounds_toArray, List.set_cons_zero, List.set_cons_succ])
  (refine kF.takeN (i := 55) (v := ?_) hnoS hallF (by rw [hl35]; rfl) (by rw [hl35]; kernel_rfl) (by intro _ _ _ h; exact h) (Or.inl ⟨by rw [hl35]; rfl, ?_⟩) ?_
   rotate_left
   · (intro wS hSw; (try dsimp only at hSw); have hcS := fun b o (h : b < w.heap.size) => hSw.cell (p := ⟨b, o, none⟩) h; go_simp; (try with_reducible rfl))
   try simp only [Act.put, List.setIfInBounds_toArray, List.set_cons_zero, List.set_cons_succ])
  (refine kF.takeN (i := 56) (v := ?_) hnoS hallF (by rw [hl35]; rfl) (by rw [hl35]; kernel_rfl) (by intro _ _ _ h; exact h) (Or.inl ⟨by rw [hl35]; rfl, ?_⟩) ?_
   rotate_left
   · (intro wS hSw; (try dsimp only at hSw); have hcS := fun b o (h : b < w.heap.size) => hSw.cell (p := ⟨b, o, none⟩) h; go_simp; (try with_reducible rfl))
   try simp only [Act.put, List.setIfInBounds_toArray, List.set_cons_zero, List.set_cons_succ])
  (refine kF.takeN (i := 57) (v := ?_) hnoS hallF (by rw [hl35]; rfl) (by rw [hl35]; kernel_rfl) (by intro _ _ _ h; exact h) (Or.inl ⟨by rw [hl35]; rfl, ?_⟩) ?_
   rotate_left
   · (intro wS hSw; (try dsimp only at hSw); have hcS := fun b o (h : b < w.heap.size) => hSw.cell (p := ⟨b, o, none⟩) h; go_simp; (try with_reducible rfl))
   try simp only [Act.put, List.setIfInBounds_toArray, List.set_cons_zero, List.set_cons_succ])
  (refine kF.takeN (i := 58) (v := ?_) hnoS hallF (by rw [hl35]; rfl) (by rw [hl35]; kernel_rfl) (by intro _ _ _ h; exact h) (Or.inl ⟨by rw [hl35]; rfl, ?_⟩) ?_
   rotate_left
   · (intro wS hSw; (try dsimp only at hSw); have hcS := fun b o (h : b < w.heap.size) => hSw.cell (p := ⟨b, o, none⟩) h; go_simp; (try with_reducible rfl))
   try simp only [Act.put, List.setIfInBounds_toArray, List.set_cons_zero, List.set_cons_succ])
  (refine kF.takeN (i := 59) (v := ?_) hnoS hallF (by rw [hl35]; rfl) (by rw [hl35]; kernel_rfl) (by intro _ _ _ h; exact h) (Or.inl ⟨by rw [hl35]; rfl, ?_⟩) ?_
   rotate_left
   · (intro wS hSw; (try dsimp only at hSw); have hcS := fun b o (h : b < w.heap.size) => hSw.cell (p := ⟨b, o, none⟩) h; go_simp; (try with_reducible rfl))
   try simp only [Act.put, List.setIfInBounds_toArray, List.set_cons_zero, List.set_cons_succ])
  (refine kF.takeN (i := 60) (v := ?_) hnoS hallF (by rw [hl35]; rfl) (by rw [hl35]; kernel_rfl) (by intro _ _ _ h; exact h) (Or.inl ⟨by rw [hl35]; rfl, ?_⟩) ?_
   rotate_left
   · (intro wS hSw; (try dsimp only at hSw); have hcS := fun b o (h : b < w.heap.size) => hSw.cell (p := ⟨b, o, none⟩) h; go_simp; (try with_reducible rfl))
   try simp only [Act.put, List.setIfInBounds_toArray, List.set_cons_zero, List.set_cons_succ])
  (refine kF.takeN (i := 61) (v := ?_) hnoS hallF (by rw [hl35]; rfl) (by rw [hl35]; kernel_rfl) (by intro _ _ _ h; exact h) (Or.inl ⟨by rw [hl35]; rfl, ?_⟩) ?_
   rotate_left
   · (intro wS hSw; (try dsimp only at hSw); have hcS := fun b o (h : b < w.heap.size) => hSw.cell (p := ⟨b, o, none⟩) h; go_simp; (try with_reducible rfl))
   try simp only [Act.put, List.setIfInBounds_toArray, List.set_cons_zero, List.set_cons_succ])
  (refine kF.takeN (i := 62) (v := ?_) hnoS hallF (by rw [hl35]; rfl) (by rw [hl35]; kernel_rfl) (by intro _ _ _ h; exact h) (Or.inl ⟨by rw [hl35]; rfl, ?_⟩) ?_
   rotate_left
   · (intro wS hSw; (try dsimp only at hSw); have hcS := fun b o (h : b < w.heap.size) => hSw.cell (p := ⟨b, o, none⟩) h; go_simp; (try with_reducible rfl))
   try simp only [Act.put, List.setIfInBounds_toArray, List.set_cons_zero, List.set_cons_succ])
  (refine kF.takeN (i := 63) (v := ?_) hnoS hallF (by rw [hl35]; rfl) (by rw [hl35]; kernel_rfl) (by intro _ _ _ h; exact h) (Or.inl ⟨by rw [hl35]; rfl, ?_⟩) ?_
   rotate_left
   · (intro wS hSw; (try dsimp only at hSw); have hcS := fun b o (h : b < w.heap.size) => hSw.cell (p := ⟨b, o, none⟩) h; go_simp; (try with_reducible rfl))
   try simp only [Act.put, List.setIfInBounds_toArray, List.set_cons_zero, List.set_cons_succ])
  (refine kF.takeN (i := 64) (v := ?_) hnoS hallF (by rw [hl35]; rfl) (by rw [hl35]; kernel_rfl) (by intro _ _ _ h; exact h) (Or.inl ⟨by rw [hl35]; rfl, ?_⟩) ?_
   rotate_left
   · (intro wS hSw; (try dsimp only at hSw); have hcS := fun b o (h : b < w.heap.size) => hSw.cell (p := ⟨b, o, none⟩) h; go_simp; (try with_reducible rfl))
   try simp only [Act.put, List.setIfInBounds_toArray, List.set_cons_zero, List.set_cons_succ])
  (refine kF.takeN (i := 65) (v := ?_) hnoS hallF (by rw [hl35]; rfl) (by rw [hl35]; kernel_rfl) (by intro _ _ _ h; exact h) (Or.inl ⟨by rw [hl35]; rfl, ?_⟩) ?_
   rotate_left
   · (intro wS hSw; (try dsimp only at hSw); have hcS := fun b o (h : b < w.heap.size) => hSw.cell (p := ⟨b, o, none⟩) h; go_simp; (try with_reducible rfl))
   try simp only [Act.put, List.setIfInBounds_toArray, List.set_cons_zero, List.set_cons_succ])
  (refine kF.takeN (i := 66) (v := ?_) hnoS hallF (by rw [hl35]; rfl) (by rw [hl35]; kernel_rfl) (by intro _ _ _ h; exact h) (Or.inl ⟨by rw [hl35]; rfl, ?_⟩) ?_
   rotate_left
   · (intro wS hSw; (try dsimp only at hSw); have hcS := fun b o (h : b < w.heap.size) => hSw.cell (p := ⟨b, o, none⟩) h; go_simp; (try with_reducible rfl))
   try simp only [Act.put, List.setIfInBounds_toArray, List.set_cons_zero, List.set_cons_succ])
  (refine kF.takeN (i := 67) (v := ?_) hnoS hallF (by rw [hl35]; rfl) (by rw [hl35]; kernel_rfl) (by intro _ _ _ h; exact h) (Or.inl ⟨by rw [hl35]; rfl, ?_⟩) ?_
   rotate_left
   · (intro wS hSw; (try dsimp only at hSw); have hcS := fun b o (h : b < w.heap.size) => hSw.cell (p := ⟨b, o, none⟩) h; go_simp; (try with_reducible rfl))
   try simp only [Act.put, List.setIfInBounds_toArray, List.set_cons_zero, List.set_cons_succ])
  (refine kF.takeN (i := 68) (v := ?_) hnoS hallF (by rw [hl35]; rfl) (by rw [hl35]; kernel_rfl) (by intro _ _ _ h; exact h) (Or.inl ⟨by rw [hl35]; rfl, ?_⟩) ?_
   rotate_left
   · (intro wS hSw; (try dsimp only at hSw); have hcS := fun b o (h : b < w.heap.size) => hSw.cell (p := ⟨b, o, none⟩) h; go_simp; (try with_reducible rfl))
   try simp only [Act.put, List.setIfInBounds_toArray, List.set_cons_zero, List.set_cons_succ])
  (refine kF.takeN (i := 69) (v := ?_) hnoS hallF (by rw [hl35]; rfl) (by rw [hl35]; kernel_rfl) (by intro _ _ _ h; exact h) (Or.inl ⟨by rw [hl35]; rfl, ?_⟩) ?_
   rotate_left
   · (intro wS hSw; (try dsimp only at hSw); have hcS := fun b o (h : b < w.heap.size) => hSw.cell (p := ⟨b, o, none⟩) h; go_simp; (try with_reducible rfl))
   try simp only [Act.put, List.setIfInBounds_toArray, List.set_cons_zero, List.set_cons_succ])
  (refine kF.takeN (i := 70) (v := ?_) hnoS hallF (by rw [hl35]; rfl) (by rw [hl35]; kernel_rfl) (by intro _ _ _ h; exact h) (Or.inl ⟨by rw [hl35]; rfl, ?_⟩) ?_
   rotate_left
   · (intro wS hSw; (try dsimp only at hSw); have hcS := fun b o (h : b < w.heap.size) => hSw.cell (p := ⟨b, o, none⟩) h; go_simp; (try with_reducible rfl))
   try simp only [Act.put, List.setIfInBounds_toArray, List.set_cons_zero, List.set_cons_succ])
  (refine kF.takeN (i := 71) (v := ?_) hnoS hallF (by rw [hl35]; rfl) (by rw [hl35]; kernel_rfl) (by intro _ _ _ h; exact h) (Or.inl ⟨by rw [hl35]; rfl, ?_⟩) ?_
   rotate_left
   · (intro wS hSw; (try dsimp only at hSw); have hcS := fun b o (h : b < w.heap.size) => hSw.cell (p := ⟨b, o, none⟩) h; go_simp; (try with_reducible rfl))
   try simp only [Act.put, List.setIfInBounds_toArray, List.set_cons_zero, List.set_cons_succ])
  (refine kF.takeN (i := 72) (v := ?_) hnoS hallF (by rw [hl35]; rfl) (by rw [hl35]; kernel_rfl) (by intro _ _ _ h; exact h) (Or.inl ⟨by rw [hl35]; rfl, ?_⟩) ?_
   rotate_left
   · (intro wS hSw; (try dsimp only at hSw); have hcS := fun b o (h : b < w.heap.size) => hSw.cell (p := ⟨b, o, none⟩) h; go_simp; (try with_reducible rfl))
   try simp only [Act.put, List.setIfInBounds_toArray, List.set_cons_zero, List.set_cons_succ])
  (refine kF.takeN (i := 73) (v := ?_) hnoS hallF (by rw [hl35]; rfl) (by rw [hl35]; kernel_rfl) (by intro _ _ _ h; exact h) (Or.inl ⟨by rw [hl35]; rfl, ?_⟩) ?_
   rotate_left
   · (intro wS hSw; (try dsimp only at hSw); have hcS := fun b o (h : b < w.heap.size) => hSw.cell (p := ⟨b, o, none⟩) h; go_simp; (try with_reducible rfl))
   try simp only [Act.put, List.setIfInBounds_toArray, List.set_cons_zero, List.set_cons_succ])
  (refine kF.takeN (i := 74) (v := ?_) hnoS hallF (by rw [hl35]; rfl) (by rw [hl35]; kernel_rfl) (by intro _ _ _ h; exact h) (Or.inl ⟨by rw [hl35]; rfl, ?_⟩) ?_
   rotate_left
   · (intro wS hSw; (try dsimp only at hSw); have hcS := fun b o (h : b < w.heap.size) => hSw.cell (p := ⟨b, o, none⟩) h; go_simp; (try with_reducible rfl))
   try simp only [Act.put, List.setIfInBounds_toArray, List.set_cons_zero, List.set_cons_succ])
  (refine kF.takeN (i := 75) (v := ?_) hnoS hallF (by rw [hl35]; rfl) (by rw [hl35]; kernel_rfl) (by intro _ _ _ h; exact h) (Or.inl ⟨by rw [hl35]; rfl, ?_⟩) ?_
   rotate_left
   · (intro wS hSw; (try dsimp only at hSw); have hcS := fun b o (h : b < w.heap.size) => hSw.cell (p := ⟨b, o, none⟩) h; go_simp; (try with_reducible rfl))
   try simp only [Act.put, List.setIfInBounds_toArray, List.set_cons_zero, List.set_cons_succ])
  (refine kF.takeN (i := 76) (v := ?_) hnoS hallF (by rw [hl35]; rfl) (by rw [hl35]; kernel_rfl) (by intro _ _ _ h; exact h) (Or.inl ⟨by rw [hl35]; rfl, ?_⟩) ?_
   rotate_left
   · (intro wS hSw; (try dsimp only at hSw); have hcS := fun b o (h : b < w.heap.size) => hSw.cell (p := ⟨b, o, none⟩) h; go_simp; (try with_reducible rfl))
   try simp only [Act.put, List.setIfInBounds_toArray, List.set_cons_zero, List.set_cons_succ])
  (refine kF.takeN (i := 77) (v := ?_) hnoS hallF (by rw [hl35]; rfl) (by rw [hl35]; kernel_rfl) (by intro _ _ _ h; exact h) (Or.inl ⟨by rw [hl35]; rfl, ?_⟩) ?_
   rotate_left
   · (intro wS hSw; (try dsimp only at hSw); have hcS := fun b o (h : b < w.heap.size) => hSw.cell (p := ⟨b, o, none⟩) h; go_simp; (try with_reducible rfl))
   try simp only [Act.put, List.setIfInBounds_toArray, List.set_cons_zero, List.set_cons_succ])
  (refine kF.takeN (i := 78) (v := ?_) hnoS hallF (by rw [hl35]; rfl) (by rw [hl35]; kernel_rfl) (by intro _ _ _ h; exact h) (Or.inl ⟨by rw [hl35]; rfl, ?_⟩) ?_
   rotate_left
   · (intro wS hSw; (try dsimp only at hSw); have hcS := fun b o (h : b < w.heap.size) => hSw.cell (p := ⟨b, o, none⟩) h; go_simp; (try with_reducible rfl))
   try simp only [Act.put, List.setIfInBounds_toArray, List.set_cons_zero, List.set_cons_succ])
  (refine kF.takeN (i := 79) (v := ?_) hnoS hallF (by rw [hl35]; rfl) (by rw [hl35]; kernel_rfl) (by intro _ _ _ h; exact h) (Or.inl ⟨by rw [hl35]; rfl, ?_⟩) ?_
   rotate_left
   · (intro wS hSw; (try dsimp only at hSw); have hcS := fun b o (h : b < w.heap.size) => hSw.cell (p := ⟨b, o, none⟩) h; go_simp; (try with_reducible rfl))
   try simp only [Act.put, List.setIfInBounds_toArray, List.set_cons_zero, List.set_cons_succ])
  (refine kF.takeN (i := 80) (v := ?_) hnoS hallF (by rw [hl35]; rfl) (by rw [hl35]; kernel_rfl) (by intro _ _ _ h; exact h) (Or.inl ⟨by rw [hl35]; rfl, ?_⟩) ?_
   rotate_left
   · (intro wS hSw; (try dsimp only at hSw); have hcS := fun b o (h : b < w.heap.size) => hSw.cell (p := ⟨b, o, none⟩) h; go_simp; (try with_reducible rfl))
   try simp only [Act.put, List.setIfInBounds_toArray, List.set_cons_zero, List.set_cons_succ])
  (refine kF.takeN (i := 81) (v := ?_) hnoS hallF (by rw [hl35]; rfl) (by rw [hl35]; kernel_rfl) (by intro _ _ _ h; exact h) (Or.inl ⟨by rw [hl35]; rfl, ?_⟩) ?_
   rotate_left
   · (intro wS hSw; (try dsimp only at hSw); have hcS := fun b o (h : b < w.heap.size) => hSw.cell (p := ⟨b, o, none⟩) h; go_simp; (try with_reducible rfl))
   try simp only [Act.put, List.setIfInBounds_toArray, List.set_cons_zero, List.set_cons_succ])
  (refine kF.takeN (i := 82) (v := ?_) hnoS hallF (by rw [hl35]; rfl) (by rw [hl35]; kernel_rfl) (by intro _ _ _ h; exact h) (Or.inl ⟨by rw [hl35]; rfl, ?_⟩) ?_
   rotate_left
   · (intro wS hSw; (try dsimp only at hSw); have hcS := fun b o (h : b < w.heap.size) => hSw.cell (p := ⟨b, o, none⟩) h; go_simp; (try with_reducible rfl))
   try simp only [Act.put, List.setIfInBounds_toArray, List.set_cons_zero, List.set_cons_succ])
  (refine kF.takeN (i := 83) (v := ?_) hnoS hallF (by rw [hl35]; rfl) (by rw [hl35]; kernel_rfl) (by intro _ _ _ h; exact h) (Or.inl ⟨by rw [hl35]; rfl, ?_⟩) ?_
   rotate_left
   · (intro wS hSw; (try dsimp only at hSw); have hcS := fun b o (h : b < w.heap.size) => hSw.cell (p := ⟨b, o, none⟩) h; go_simp; (try with_reducible rfl))
   try simp only [Act.put, List.setIfInBounds_toArray, List.set_cons_zero, List.set_cons_succ])
  exact ix_lastB hops0 hnoS hallF w _ q6 q20 q24 n5 c5 b6 o6 c6 n7 c7 A5 A7 _ _ _ _ _ _ _ _ _ _ _ _ _ _ _ _ _ _ _ _ _ _ _ _ _ _ _ _ _ _ _ _ _ _ _ _ _ _ _ _ _ _ _ _ _ _ _ _ _ _ _ _ _ _ _ _ _ _ _ _ _ _ _ _ _ _ _ _ _ _ _ _ _ _ _ _ _ _ _ _ _ _ _ _ _ _ _ _ _ _ _ _ _ _ _ _ _ _ _ _ _ _ _ _ _ _ _ _ _ _ _ _ _ _ _ _ _ _ _ _ _ _ _ _ _ _ _ _ _ _ _ _ _ _ _ _ _ _ _ _ _ _ _ _ _ _ _ _ _ _ _ _ _ _ _ _ _ _ _ _ _ _ _ _ _ _ _ _ _ _ _ _ _ _ _ _ _ _ _ _ _ _ _ _ _ _ _ _ _ _ _ _ _ _ _ _ _ _ _ _ _ _ _ _ _ _ _ _ _ _ _ _ _ _ _ _ _ _ _ _ _ _ _ _ _ _ _ _ _ _ _ _ _ _ _ _ _ _ _ _ _ _ _ _ _ _ _ _ _ _ _ _ _ _ _ _ _ _ _ _ _ _ _ _ _ _ _ _ _ _ _ _ _ _ _ _ _ _ _ _ _ _ _ _ _ _ _ _ _ _ _ _ _ _ _ _ _ _ _ _ _ _ _ _ _ _ _ _ _ _ _ _ _ _ _ _ _ _ _ _ _ _ _ _ _ _ _ _ _ _ _ _ _ _ _ _ _ _ _ _ _ _ _ _ _ _ _ _ _ _ _ _ _ _ _ _ _ _ _ _ _ _ _ _ _ _ _ _ _ _ _ _ _ _ _ _ _ _ _ _ _ _ _ _ _ _ _ _ _ _ _ _ _ _ _ _ _ _ _ _ _ _ _ _ _ _ _ _ _ _ _ _ _ _ _ _ _ _ ld cd hD5 hP7 hQ
end Go.Proofs.Ytbfephekkfieaaa
