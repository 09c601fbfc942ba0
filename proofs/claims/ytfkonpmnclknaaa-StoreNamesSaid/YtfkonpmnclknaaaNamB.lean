/-
  StoreNames: what each fault does; what has room; which write is refused. (Printed by gen_storenames.py.)
-/
import Derived.Test.YtfkonpmnclknaaaNamC
namespace Go.Proofs.Ytfkonpmnclknaaa
open Go.RowKit Go.Maps
attribute [local go_sem ↓] Go.wp_at_zero Go.wp_at_succ
def rm1 : Sto := ⟨[], [⟨⟨#[97]⟩, ⟨#[49, 50, 51]⟩, false⟩], [(⟨#[97]⟩, ⟨#[49, 50, 51]⟩)], false, -1, -1⟩
theorem rm2_r : Sto.new.put (⟨#[97]⟩, ⟨#[49, 50, 51]⟩) = (rm1, 0) := by (first | rfl | kernel_rfl)
def rm3 : Sto := ⟨[], [⟨⟨#[97]⟩, ⟨#[49, 50, 51]⟩, false⟩], [(⟨#[97]⟩, ⟨#[49, 50, 51]⟩)], false, -1, 5⟩
theorem rm4_r : rm1.strike ⟨7, 0, 5, 0, 0⟩ = (rm3, 0) := by (first | rfl | kernel_rfl)
def rm5 : Sto := ⟨[], [⟨⟨#[97]⟩, ⟨#[49, 50, 51]⟩, false⟩, ⟨⟨#[97]⟩, ⟨#[49, 50, 51, 52, 53]⟩, false⟩], [(⟨#[97]⟩, ⟨#[49, 50, 51, 52, 53]⟩)], false, -1, 5⟩
theorem rm6_r : rm3.put (⟨#[97]⟩, ⟨#[49, 50, 51, 52, 53]⟩) = (rm5, 0) := by (first | rfl | kernel_rfl)
def rm7 : Sto := ⟨[], [⟨⟨#[97]⟩, ⟨#[49, 50, 51]⟩, false⟩, ⟨⟨#[97]⟩, ⟨#[49, 50, 51, 52, 53]⟩, false⟩], [(⟨#[97]⟩, ⟨#[49, 50, 51, 52, 53]⟩)], false, -1, 5⟩
theorem rm8_r : rm5.put (⟨#[97]⟩, ⟨#[49, 50, 51, 52, 53, 54]⟩) = (rm7, 52) := by (first | rfl | kernel_rfl)
def rm9 : Sto := ⟨[], [⟨⟨#[97]⟩, ⟨#[49, 50, 51]⟩, false⟩, ⟨⟨#[97]⟩, ⟨#[49, 50, 51, 52, 53]⟩, false⟩, ⟨⟨#[98]⟩, ⟨#[]⟩, false⟩], [(⟨#[97]⟩, ⟨#[49, 50, 51, 52, 53]⟩), (⟨#[98]⟩, ⟨#[]⟩)], false, -1, 5⟩
theorem rm10_r : rm7.put (⟨#[98]⟩, ⟨#[]⟩) = (rm9, 0) := by (first | rfl | kernel_rfl)
def rm11 : Sto := ⟨[], [⟨⟨#[97]⟩, ⟨#[49, 50, 51]⟩, false⟩, ⟨⟨#[97]⟩, ⟨#[49, 50, 51, 52, 53]⟩, false⟩, ⟨⟨#[98]⟩, ⟨#[]⟩, false⟩], [(⟨#[97]⟩, ⟨#[49, 50, 51, 52, 53]⟩), (⟨#[98]⟩, ⟨#[]⟩)], false, -1, 5⟩
theorem rm12_r : rm9.put (⟨#[98]⟩, ⟨#[49]⟩) = (rm11, 52) := by (first | rfl | kernel_rfl)
def rm13 : Sto := ⟨[], [⟨⟨#[97]⟩, ⟨#[49, 50, 51]⟩, false⟩, ⟨⟨#[97]⟩, ⟨#[49, 50, 51, 52, 53]⟩, false⟩, ⟨⟨#[98]⟩, ⟨#[]⟩, false⟩, ⟨⟨#[109, 49]⟩, ⟨#[49, 50, 51, 52, 53, 54]⟩, false⟩], [(⟨#[97]⟩, ⟨#[49, 50, 51, 52, 53]⟩), (⟨#[98]⟩, ⟨#[]⟩), (⟨#[109, 49]⟩, ⟨#[49, 50, 51, 52, 53, 54]⟩)], false, -1, 5⟩
theorem rm14_r : rm11.put (⟨#[109, 49]⟩, ⟨#[49, 50, 51, 52, 53, 54]⟩) = (rm13, 0) := by (first | rfl | kernel_rfl)
def rm15 : Sto := ⟨[], [⟨⟨#[97]⟩, ⟨#[49, 50, 51]⟩, false⟩, ⟨⟨#[97]⟩, ⟨#[49, 50, 51, 52, 53]⟩, false⟩, ⟨⟨#[98]⟩, ⟨#[]⟩, false⟩, ⟨⟨#[109, 49]⟩, ⟨#[49, 50, 51, 52, 53, 54]⟩, false⟩], [(⟨#[97]⟩, ⟨#[49, 50, 51, 52, 53]⟩), (⟨#[98]⟩, ⟨#[]⟩), (⟨#[109, 49]⟩, ⟨#[49, 50, 51, 52, 53, 54]⟩)], false, -1, 5⟩
theorem rm16_r : rm13.put (⟨#[109, 50]⟩, ⟨#[49]⟩) = (rm15, 52) := by (first | rfl | kernel_rfl)
def rm17 : Sto := ⟨[], [⟨⟨#[97]⟩, ⟨#[49, 50, 51]⟩, false⟩, ⟨⟨#[97]⟩, ⟨#[49, 50, 51, 52, 53]⟩, false⟩, ⟨⟨#[98]⟩, ⟨#[]⟩, false⟩, ⟨⟨#[109, 49]⟩, ⟨#[49, 50, 51, 52, 53, 54]⟩, false⟩], [(⟨#[97]⟩, ⟨#[49, 50, 51, 52, 53]⟩), (⟨#[98]⟩, ⟨#[]⟩), (⟨#[109, 49]⟩, ⟨#[49, 50, 51, 52, 53, 54]⟩)], false, -1, 2⟩
theorem rm18_r : rm15.strike ⟨7, 0, 2, 0, 0⟩ = (rm17, 0) := by (first | rfl | kernel_rfl)
def rm19 : Sto := ⟨[], [⟨⟨#[97]⟩, ⟨#[49, 50, 51]⟩, false⟩, ⟨⟨#[97]⟩, ⟨#[49, 50, 51, 52, 53]⟩, false⟩, ⟨⟨#[98]⟩, ⟨#[]⟩, false⟩, ⟨⟨#[109, 49]⟩, ⟨#[49, 50, 51, 52, 53, 54]⟩, false⟩], [(⟨#[97]⟩, ⟨#[49, 50, 51, 52, 53]⟩), (⟨#[98]⟩, ⟨#[]⟩), (⟨#[109, 49]⟩, ⟨#[49, 50, 51, 52, 53, 54]⟩)], false, -1, 2⟩
theorem rm20_r : rm17.put (⟨#[97]⟩, ⟨#[49, 50, 51]⟩) = (rm19, 52) := by (first | rfl | kernel_rfl)
def rm21 : Sto := ⟨[], [⟨⟨#[97]⟩, ⟨#[49, 50, 51]⟩, false⟩, ⟨⟨#[97]⟩, ⟨#[49, 50, 51, 52, 53]⟩, false⟩, ⟨⟨#[98]⟩, ⟨#[]⟩, false⟩, ⟨⟨#[109, 49]⟩, ⟨#[49, 50, 51, 52, 53, 54]⟩, false⟩, ⟨⟨#[97]⟩, ⟨#[49, 50]⟩, false⟩], [(⟨#[97]⟩, ⟨#[49, 50]⟩), (⟨#[98]⟩, ⟨#[]⟩), (⟨#[109, 49]⟩, ⟨#[49, 50, 51, 52, 53, 54]⟩)], false, -1, 2⟩
theorem rm22_r : rm19.put (⟨#[97]⟩, ⟨#[49, 50]⟩) = (rm21, 0) := by (first | rfl | kernel_rfl)
def rm23 : Sto := ⟨[], [⟨⟨#[97]⟩, ⟨#[49, 50, 51]⟩, false⟩, ⟨⟨#[97]⟩, ⟨#[49, 50, 51, 52, 53]⟩, false⟩, ⟨⟨#[98]⟩, ⟨#[]⟩, false⟩, ⟨⟨#[109, 49]⟩, ⟨#[49, 50, 51, 52, 53, 54]⟩, false⟩, ⟨⟨#[97]⟩, ⟨#[49, 50]⟩, false⟩, ⟨⟨#[97]⟩, ⟨#[]⟩, true⟩], [(⟨#[98]⟩, ⟨#[]⟩), (⟨#[109, 49]⟩, ⟨#[49, 50, 51, 52, 53, 54]⟩)], false, -1, 2⟩
theorem rm24_r : rm21.del ⟨#[97]⟩ = (rm23, 0) := by (first | rfl | kernel_rfl)
def rm25 : Sto := ⟨[], [⟨⟨#[97]⟩, ⟨#[49, 50, 51]⟩, false⟩, ⟨⟨#[97]⟩, ⟨#[49, 50, 51, 52, 53]⟩, false⟩, ⟨⟨#[98]⟩, ⟨#[]⟩, false⟩, ⟨⟨#[109, 49]⟩, ⟨#[49, 50, 51, 52, 53, 54]⟩, false⟩, ⟨⟨#[97]⟩, ⟨#[49, 50]⟩, false⟩, ⟨⟨#[97]⟩, ⟨#[]⟩, true⟩, ⟨⟨#[98]⟩, ⟨#[49, 50]⟩, false⟩], [(⟨#[98]⟩, ⟨#[49, 50]⟩), (⟨#[109, 49]⟩, ⟨#[49, 50, 51, 52, 53, 54]⟩)], false, -1, 2⟩
theorem rm26_r : rm23.put (⟨#[98]⟩, ⟨#[49, 50]⟩) = (rm25, 0) := by (first | rfl | kernel_rfl)
def rm27 : Sto := ⟨[], [⟨⟨#[97]⟩, ⟨#[49, 50, 51]⟩, false⟩, ⟨⟨#[97]⟩, ⟨#[49, 50, 51, 52, 53]⟩, false⟩, ⟨⟨#[98]⟩, ⟨#[]⟩, false⟩, ⟨⟨#[109, 49]⟩, ⟨#[49, 50, 51, 52, 53, 54]⟩, false⟩, ⟨⟨#[97]⟩, ⟨#[49, 50]⟩, false⟩, ⟨⟨#[97]⟩, ⟨#[]⟩, true⟩, ⟨⟨#[98]⟩, ⟨#[49, 50]⟩, false⟩], [(⟨#[98]⟩, ⟨#[49, 50]⟩), (⟨#[109, 49]⟩, ⟨#[49, 50, 51, 52, 53, 54]⟩)], false, -1, 0⟩
theorem rm28_r : rm25.strike ⟨7, 0, 0, 0, 0⟩ = (rm27, 0) := by (first | rfl | kernel_rfl)
def rm29 : Sto := ⟨[], [⟨⟨#[97]⟩, ⟨#[49, 50, 51]⟩, false⟩, ⟨⟨#[97]⟩, ⟨#[49, 50, 51, 52, 53]⟩, false⟩, ⟨⟨#[98]⟩, ⟨#[]⟩, false⟩, ⟨⟨#[109, 49]⟩, ⟨#[49, 50, 51, 52, 53, 54]⟩, false⟩, ⟨⟨#[97]⟩, ⟨#[49, 50]⟩, false⟩, ⟨⟨#[97]⟩, ⟨#[]⟩, true⟩, ⟨⟨#[98]⟩, ⟨#[49, 50]⟩, false⟩], [(⟨#[98]⟩, ⟨#[49, 50]⟩), (⟨#[109, 49]⟩, ⟨#[49, 50, 51, 52, 53, 54]⟩)], false, -1, 0⟩
theorem rm30_r : rm27.put (⟨#[98]⟩, ⟨#[49]⟩) = (rm29, 52) := by (first | rfl | kernel_rfl)
def rm31 : Sto := ⟨[], [⟨⟨#[97]⟩, ⟨#[49, 50, 51]⟩, false⟩, ⟨⟨#[97]⟩, ⟨#[49, 50, 51, 52, 53]⟩, false⟩, ⟨⟨#[98]⟩, ⟨#[]⟩, false⟩, ⟨⟨#[109, 49]⟩, ⟨#[49, 50, 51, 52, 53, 54]⟩, false⟩, ⟨⟨#[97]⟩, ⟨#[49, 50]⟩, false⟩, ⟨⟨#[97]⟩, ⟨#[]⟩, true⟩, ⟨⟨#[98]⟩, ⟨#[49, 50]⟩, false⟩, ⟨⟨#[98]⟩, ⟨#[]⟩, false⟩], [(⟨#[98]⟩, ⟨#[]⟩), (⟨#[109, 49]⟩, ⟨#[49, 50, 51, 52, 53, 54]⟩)], false, -1, 0⟩
theorem rm32_r : rm29.put (⟨#[98]⟩, ⟨#[]⟩) = (rm31, 0) := by (first | rfl | kernel_rfl)
def rf1 : Sto := ⟨[], [⟨⟨#[97]⟩, ⟨#[49]⟩, false⟩], [(⟨#[97]⟩, ⟨#[49]⟩)], false, -1, -1⟩
theorem rf2_r : Sto.new.put (⟨#[97]⟩, ⟨#[49]⟩) = (rf1, 0) := by (first | rfl | kernel_rfl)
def rf3 : Sto := ⟨[], [⟨⟨#[97]⟩, ⟨#[49]⟩, false⟩], [(⟨#[97]⟩, ⟨#[49]⟩)], false, -1, 3⟩
theorem rf4_r : rf1.strike ⟨7, 0, 3, 0, 0⟩ = (rf3, 0) := by (first | rfl | kernel_rfl)
def rf5 : Sto := ⟨[], [⟨⟨#[97]⟩, ⟨#[49]⟩, false⟩], [(⟨#[97]⟩, ⟨#[49]⟩)], false, 1, 3⟩
theorem rf6_r : rf3.strike ⟨6, 0, 1, 0, 0⟩ = (rf5, 0) := by (first | rfl | kernel_rfl)
theorem rf7_r : rf5.sound = false := by (first | rfl | kernel_rfl)
def rf8 : Sto := ⟨[], [⟨⟨#[97]⟩, ⟨#[49]⟩, false⟩], [(⟨#[97]⟩, ⟨#[49]⟩)], false, 1, 3⟩
theorem rf9_r : rf5.put (⟨#[]⟩, ⟨#[]⟩) = (rf8, 1) := by (first | rfl | kernel_rfl)
def rf10 : Sto := ⟨[], [⟨⟨#[97]⟩, ⟨#[49]⟩, false⟩], [(⟨#[97]⟩, ⟨#[49]⟩)], false, 1, 3⟩
theorem rf11_r : rf8.put (⟨#[98]⟩, ⟨#[49, 50, 51, 52]⟩) = (rf10, 52) := by (first | rfl | kernel_rfl)
def rf12 : Sto := ⟨[], [⟨⟨#[97]⟩, ⟨#[49]⟩, false⟩], [(⟨#[97]⟩, ⟨#[49]⟩)], false, 1, 3⟩
theorem rf13_r : rf10.del ⟨#[113]⟩ = (rf12, 5) := by (first | rfl | kernel_rfl)
def rf14 : Sto := ⟨[(⟨#[97]⟩, ⟨#[49]⟩)], [], [(⟨#[97]⟩, ⟨#[49]⟩)], false, 1, 3⟩
theorem rf15_r : rf12.sync = (rf14, 0) := by (first | rfl | kernel_rfl)
theorem rf16_r : rf14.sound = false := by (first | rfl | kernel_rfl)
def rf17 : Sto := ⟨[(⟨#[97]⟩, ⟨#[49]⟩)], [⟨⟨#[98]⟩, ⟨#[49]⟩, false⟩], [(⟨#[97]⟩, ⟨#[49]⟩), (⟨#[98]⟩, ⟨#[49]⟩)], false, 0, 3⟩
theorem rf18_r : rf14.put (⟨#[98]⟩, ⟨#[49]⟩) = (rf17, 0) := by (first | rfl | kernel_rfl)
theorem rf19_r : rf17.sound = false := by (first | rfl | kernel_rfl)
def rf20 : Sto := ⟨[(⟨#[97]⟩, ⟨#[49]⟩)], [⟨⟨#[98]⟩, ⟨#[49]⟩, false⟩], [(⟨#[97]⟩, ⟨#[49]⟩), (⟨#[98]⟩, ⟨#[49]⟩)], false, 0, 3⟩
theorem rf21_r : rf17.put (⟨#[113]⟩, ⟨#[49, 50, 51, 52, 53, 54]⟩) = (rf20, 52) := by (first | rfl | kernel_rfl)
def rf22 : Sto := ⟨[(⟨#[97]⟩, ⟨#[49]⟩)], [⟨⟨#[98]⟩, ⟨#[49]⟩, false⟩], [(⟨#[97]⟩, ⟨#[49]⟩), (⟨#[98]⟩, ⟨#[49]⟩)], false, 0, 3⟩
theorem rf23_r : rf20.strike ⟨5, 0, 0, 0, 0⟩ = (rf22, 0) := by (first | rfl | kernel_rfl)
theorem rf24_r : rf22.sound = false := by (first | rfl | kernel_rfl)
def rf25 : Sto := ⟨[(⟨#[97]⟩, ⟨#[49]⟩)], [⟨⟨#[98]⟩, ⟨#[49]⟩, false⟩], [(⟨#[97]⟩, ⟨#[49]⟩), (⟨#[98]⟩, ⟨#[49]⟩)], false, -1, 3⟩
theorem rf26_r : rf22.del ⟨#[97]⟩ = (rf25, 53) := by (first | rfl | kernel_rfl)
theorem rf27_r : rf25.sound = true := by (first | rfl | kernel_rfl)
theorem rf28_r : rf25.has ⟨#[97]⟩ ⟨#[49]⟩ = true := by (first | rfl | kernel_rfl)
def rf29 : Sto := ⟨[(⟨#[97]⟩, ⟨#[49]⟩)], [⟨⟨#[98]⟩, ⟨#[49]⟩, false⟩, ⟨⟨#[97]⟩, ⟨#[]⟩, true⟩], [(⟨#[98]⟩, ⟨#[49]⟩)], false, -1, 3⟩
theorem rf30_r : rf25.del ⟨#[97]⟩ = (rf29, 0) := by (first | rfl | kernel_rfl)
def rf31 : Sto := ⟨[(⟨#[97]⟩, ⟨#[49]⟩)], [⟨⟨#[98]⟩, ⟨#[49]⟩, false⟩, ⟨⟨#[97]⟩, ⟨#[]⟩, true⟩], [(⟨#[98]⟩, ⟨#[49]⟩)], false, 9, 3⟩
theorem rf32_r : rf29.strike ⟨6, 0, 9, 0, 0⟩ = (rf31, 0) := by (first | rfl | kernel_rfl)
def rf33 : Sto := ⟨[(⟨#[97]⟩, ⟨#[49]⟩)], [⟨⟨#[98]⟩, ⟨#[49]⟩, false⟩, ⟨⟨#[97]⟩, ⟨#[]⟩, true⟩], [(⟨#[98]⟩, ⟨#[49]⟩)], false, 0, 3⟩
theorem rf34_r : rf31.strike ⟨6, 0, 0, 0, 0⟩ = (rf33, 0) := by (first | rfl | kernel_rfl)
def rf35 : Sto := ⟨[(⟨#[97]⟩, ⟨#[49]⟩)], [], [(⟨#[97]⟩, ⟨#[49]⟩)], false, 0, 3⟩
theorem rf36_r : rf33.crash [] = rf35 := by (first | rfl | kernel_rfl)
theorem rf37_r : rf35.sound = false := by (first | rfl | kernel_rfl)
def rf38 : Sto := ⟨[(⟨#[97]⟩, ⟨#[49]⟩)], [], [(⟨#[97]⟩, ⟨#[49]⟩)], false, -1, 3⟩
theorem rf39_r : rf35.put (⟨#[99]⟩, ⟨#[]⟩) = (rf38, 53) := by (first | rfl | kernel_rfl)
def rf40 : Sto := ⟨[(⟨#[97]⟩, ⟨#[49]⟩)], [⟨⟨#[97]⟩, ⟨#[]⟩, false⟩], [(⟨#[97]⟩, ⟨#[]⟩)], false, -1, 3⟩
theorem rf41_r : rf38.put (⟨#[97]⟩, ⟨#[]⟩) = (rf40, 0) := by (first | rfl | kernel_rfl)
def rf42 : Sto := ⟨[(⟨#[97]⟩, ⟨#[]⟩)], [], [(⟨#[97]⟩, ⟨#[]⟩)], false, -1, 3⟩
theorem rf43_r : rf40.sync = (rf42, 0) := by (first | rfl | kernel_rfl)
def rf44 : Sto := ⟨[(⟨#[97]⟩, ⟨#[]⟩)], [⟨⟨#[97]⟩, ⟨#[]⟩, true⟩], [], false, -1, 3⟩
theorem rf45_r : rf42.del ⟨#[97]⟩ = (rf44, 0) := by (first | rfl | kernel_rfl)
def rf46 : Sto := ⟨[], [], [], false, -1, 3⟩
theorem rf47_r : rf44.crash [0] = rf46 := by (first | rfl | kernel_rfl)
theorem rf48_r : rf46.get ⟨#[97]⟩ = (⟨#[]⟩, 5) := by (first | rfl | kernel_rfl)
theorem rf49_r : rf46.sound = true := by (first | rfl | kernel_rfl)
def rf50 : Sto := ⟨[], [⟨⟨#[99]⟩, ⟨#[]⟩, false⟩], [(⟨#[99]⟩, ⟨#[]⟩)], false, -1, 3⟩
theorem rf51_r : rf46.put (⟨#[99]⟩, ⟨#[]⟩) = (rf50, 0) := by (first | rfl | kernel_rfl)
def rf52 : Sto := ⟨[(⟨#[97]⟩, ⟨#[49]⟩)], [], [(⟨#[97]⟩, ⟨#[49]⟩)], false, -1, 4⟩
theorem rf53_r : rf38.strike ⟨7, 0, 4, 0, 0⟩ = (rf52, 0) := by (first | rfl | kernel_rfl)
def fl1 : Sto := ⟨[], [⟨⟨#[97]⟩, ⟨#[49, 49]⟩, false⟩], [(⟨#[97]⟩, ⟨#[49, 49]⟩)], false, -1, -1⟩
def fl2 : Sto := ⟨[], [⟨⟨#[97]⟩, ⟨#[49, 49]⟩, false⟩, ⟨⟨#[98]⟩, ⟨#[]⟩, false⟩], [(⟨#[97]⟩, ⟨#[49, 49]⟩), (⟨#[98]⟩, ⟨#[]⟩)], false, -1, -1⟩
def fl3 : Sto := ⟨[], [⟨⟨#[97]⟩, ⟨#[49, 49]⟩, false⟩, ⟨⟨#[98]⟩, ⟨#[]⟩, false⟩, ⟨⟨#[99]⟩, ⟨#[51, 51, 51]⟩, false⟩], [(⟨#[97]⟩, ⟨#[49, 49]⟩), (⟨#[98]⟩, ⟨#[]⟩), (⟨#[99]⟩, ⟨#[51, 51, 51]⟩)], false, -1, -1⟩
theorem fl1_r : Sto.new.put (⟨#[97]⟩, ⟨#[49, 49]⟩) = (fl1, 0) := by (first | rfl | kernel_rfl)
theorem fl2_r : fl1.put (⟨#[98]⟩, ⟨#[]⟩) = (fl2, 0) := by (first | rfl | kernel_rfl)
theorem fl3_r : fl2.put (⟨#[99]⟩, ⟨#[51, 51, 51]⟩) = (fl3, 0) := by (first | rfl | kernel_rfl)
def fOb : List Ob := [(⟨#[97]⟩, ⟨#[49, 49]⟩), (⟨#[98]⟩, ⟨#[]⟩), (⟨#[99]⟩, ⟨#[51, 51, 51]⟩)]
def flS : Nat → Sto
  | 0 => Sto.new
  | 1 => fl1
  | 2 => fl2
  | _ => fl3
theorem fl_put (k : Nat) (p : Ob) (h : fOb[k]? = some p) : (flS k).put (p.1, p.2) = (flS (k + 1), 0) ∧ p.1.size ≤ maxLen ∧ p.2.size ≤ maxLen := by
  match k with
  | 0 => cases h; exact ⟨fl1_r, by decide, by decide⟩
  | 1 => cases h; exact ⟨fl2_r, by decide, by decide⟩
  | 2 => cases h; exact ⟨fl3_r, by decide, by decide⟩
  | k + 3 => simp [fOb] at h
def fa1 : Sto := ⟨[(⟨#[97]⟩, ⟨#[49, 49]⟩), (⟨#[98]⟩, ⟨#[]⟩), (⟨#[99]⟩, ⟨#[51, 120, 51]⟩)], [], [(⟨#[97]⟩, ⟨#[49, 49]⟩), (⟨#[98]⟩, ⟨#[]⟩), (⟨#[99]⟩, ⟨#[51, 120, 51]⟩)], false, -1, -1⟩
theorem fa2_r : fl3.strike ⟨3, 0, 5, 4, 120⟩ = (fa1, 0) := by (first | rfl | kernel_rfl)
def fa3 : Sto := ⟨[(⟨#[97]⟩, ⟨#[49, 49]⟩), (⟨#[98]⟩, ⟨#[]⟩), (⟨#[99]⟩, ⟨#[51, 120, 51]⟩)], [], [(⟨#[97]⟩, ⟨#[49, 49]⟩), (⟨#[98]⟩, ⟨#[]⟩), (⟨#[99]⟩, ⟨#[51, 120, 51]⟩)], false, -1, -1⟩
theorem fa4_r : fa1.crash [] = fa3 := by (first | rfl | kernel_rfl)
theorem fa5_r : fa3.has ⟨#[99]⟩ ⟨#[51, 120, 51]⟩ = true := by (first | rfl | kernel_rfl)
def fa6 : Sto := ⟨[(⟨#[97]⟩, ⟨#[49, 49]⟩), (⟨#[98]⟩, ⟨#[]⟩), (⟨#[99]⟩, ⟨#[51, 120, 51]⟩)], [], [(⟨#[97]⟩, ⟨#[49, 49]⟩), (⟨#[98]⟩, ⟨#[]⟩), (⟨#[99]⟩, ⟨#[51, 120, 51]⟩)], false, -1, -1⟩
theorem fa7_r : fa3.strike ⟨3, 0, 1, 0, 120⟩ = (fa6, 0) := by (first | rfl | kernel_rfl)
theorem fa8_r : fa6.has ⟨#[98]⟩ ⟨#[]⟩ = true := by (first | rfl | kernel_rfl)
def fa9 : Sto := ⟨[(⟨#[98]⟩, ⟨#[]⟩), (⟨#[99]⟩, ⟨#[51, 120, 51]⟩)], [], [(⟨#[98]⟩, ⟨#[]⟩), (⟨#[99]⟩, ⟨#[51, 120, 51]⟩)], false, -1, -1⟩
theorem fa10_r : fa6.strike ⟨2, 0, 3, 0, 0⟩ = (fa9, 0) := by (first | rfl | kernel_rfl)
def fa11 : Sto := ⟨[(⟨#[98]⟩, ⟨#[]⟩), (⟨#[99]⟩, ⟨#[51, 120, 51]⟩)], [⟨⟨#[97]⟩, ⟨#[57]⟩, false⟩], [(⟨#[97]⟩, ⟨#[57]⟩), (⟨#[98]⟩, ⟨#[]⟩), (⟨#[99]⟩, ⟨#[51, 120, 51]⟩)], false, -1, -1⟩
theorem fa12_r : fa9.put (⟨#[97]⟩, ⟨#[57]⟩) = (fa11, 0) := by (first | rfl | kernel_rfl)
def fa13 : Sto := ⟨[(⟨#[98]⟩, ⟨#[]⟩), (⟨#[99]⟩, ⟨#[51, 120, 51]⟩)], [], [(⟨#[98]⟩, ⟨#[]⟩), (⟨#[99]⟩, ⟨#[51, 120, 51]⟩)], false, -1, -1⟩
theorem fa14_r : fa11.crash [] = fa13 := by (first | rfl | kernel_rfl)
def fa15 : Sto := ⟨[(⟨#[98]⟩, ⟨#[]⟩), (⟨#[99]⟩, ⟨#[51, 120, 51]⟩)], [], [(⟨#[98]⟩, ⟨#[]⟩), (⟨#[99]⟩, ⟨#[51, 120, 51]⟩)], true, -1, -1⟩
theorem fa16_r : fa13.strike ⟨4, 0, 0, 0, 0⟩ = (fa15, 0) := by (first | rfl | kernel_rfl)
theorem fa17_r : fa15.sound = false := by (first | rfl | kernel_rfl)
def fa18 : Sto := ⟨[(⟨#[98]⟩, ⟨#[]⟩), (⟨#[99]⟩, ⟨#[51, 120, 51]⟩)], [], [(⟨#[98]⟩, ⟨#[]⟩), (⟨#[99]⟩, ⟨#[51, 120, 51]⟩)], true, -1, -1⟩
theorem fa19_r : fa15.put (⟨#[113]⟩, ⟨#[]⟩) = (fa18, 51) := by (first | rfl | kernel_rfl)
def fa20 : Sto := ⟨[(⟨#[98]⟩, ⟨#[]⟩), (⟨#[99]⟩, ⟨#[51, 120, 51]⟩)], [], [(⟨#[98]⟩, ⟨#[]⟩), (⟨#[99]⟩, ⟨#[51, 120, 51]⟩)], true, -1, -1⟩
theorem fa21_r : fa18.del ⟨#[113]⟩ = (fa20, 51) := by (first | rfl | kernel_rfl)
def fa22 : Sto := ⟨[(⟨#[98]⟩, ⟨#[]⟩), (⟨#[99]⟩, ⟨#[51, 120, 51]⟩)], [], [(⟨#[98]⟩, ⟨#[]⟩), (⟨#[99]⟩, ⟨#[51, 120, 51]⟩)], true, -1, -1⟩
theorem fa23_r : fa20.sync = (fa22, 51) := by (first | rfl | kernel_rfl)
def fa24 : Sto := ⟨[(⟨#[98]⟩, ⟨#[]⟩), (⟨#[99]⟩, ⟨#[51, 120, 51]⟩)], [], [(⟨#[98]⟩, ⟨#[]⟩), (⟨#[99]⟩, ⟨#[51, 120, 51]⟩)], true, -1, -1⟩
theorem fa25_r : fa22.put (⟨#[]⟩, ⟨#[]⟩) = (fa24, 1) := by (first | rfl | kernel_rfl)
theorem fa26_r : fa24.get ⟨#[98]⟩ = (⟨#[]⟩, 51) := by (first | rfl | kernel_rfl)
def fa27 : Sto := ⟨[(⟨#[99]⟩, ⟨#[51, 120, 51]⟩)], [], [(⟨#[99]⟩, ⟨#[51, 120, 51]⟩)], true, -1, -1⟩
theorem fa28_r : fa24.strike ⟨2, 0, 0, 0, 0⟩ = (fa27, 0) := by (first | rfl | kernel_rfl)
def fa29 : Sto := ⟨[(⟨#[99]⟩, ⟨#[51, 120, 51]⟩)], [], [(⟨#[99]⟩, ⟨#[51, 120, 51]⟩)], true, -1, -1⟩
theorem fa30_r : fa27.crash [] = fa29 := by (first | rfl | kernel_rfl)
def fa31 : Sto := ⟨[(⟨#[99]⟩, ⟨#[51, 120, 51]⟩)], [], [(⟨#[99]⟩, ⟨#[51, 120, 51]⟩)], false, -1, -1⟩
theorem fa32_r : fa29.strike ⟨5, 0, 0, 0, 0⟩ = (fa31, 0) := by (first | rfl | kernel_rfl)
theorem fa33_r : fa31.sound = true := by (first | rfl | kernel_rfl)
def fa34 : Sto := ⟨[(⟨#[99]⟩, ⟨#[51, 120, 51]⟩)], [⟨⟨#[100]⟩, ⟨#[52]⟩, false⟩], [(⟨#[99]⟩, ⟨#[51, 120, 51]⟩), (⟨#[100]⟩, ⟨#[52]⟩)], false, -1, -1⟩
theorem fa35_r : fa31.put (⟨#[100]⟩, ⟨#[52]⟩) = (fa34, 0) := by (first | rfl | kernel_rfl)
def fa36 : Sto := ⟨[], [], [], false, -1, -1⟩
theorem fa37_r : fa34.strike ⟨1, 0, 0, 0, 0⟩ = (fa36, 0) := by (first | rfl | kernel_rfl)
def fa38 : Sto := ⟨[], [], [], false, -1, -1⟩
theorem fa39_r : fa36.crash [65536, 65536] = fa38 := by (first | rfl | kernel_rfl)
def fa40 : Sto := ⟨[], [], [], false, -1, -1⟩
theorem fa41_r : fa38.strike ⟨2, 0, 0, 0, 0⟩ = (fa40, 0) := by (first | rfl | kernel_rfl)
def fa42 : Sto := ⟨[], [], [], false, -1, -1⟩
theorem fa43_r : fa40.strike ⟨3, 0, 0, 0, 0⟩ = (fa42, 0) := by (first | rfl | kernel_rfl)

set_option maxHeartbeats 16000000 in
set_option maxRecDepth 100000 in
theorem law07_rooms (w : World) : Calls Try.prog 22 #[] w fun e w' => e = .returned (.bool true) ∧ Below w.heap.size w w' := by
  go_enter Try.func22, Try.ntmps22
  have hS : Stos w.heap.size w w 0 [] [] := Stos.none_ (Below.refl _ _)
  go_wp2_with fail
  (refine (hS.new (Nat.le_refl _) (by decide)).mono ?_
   rintro e wx ⟨b0, rfl, hT⟩
   clear hS
   have hS : Stos w.heap.size w wx 0 [(b0, Sto.new)] _ := hT
   clear hT
   go_wp2_with fail)
  (refine (hS.o (Nat.le_refl _)).mono ?_
   rintro e wx ⟨rfl, hT⟩
   clear hS
   have hS := hT
   clear hT
   go_wp2_with fail)
  (refine (hS.put (k := 0) (Nat.le_refl _) rfl rm2_r (by decide) (by decide) (by decide)).mono ?_
   rintro e wx ⟨rfl, hT⟩
   clear hS
   have hS : Stos w.heap.size w wx 1 [(b0, rm1)] _ := hT
   clear hT
   go_wp2_with fail)
  (refine (hS.strike (k := 0) (f := ⟨7, 0, 5, 0, 0⟩) (Nat.le_refl _) rfl rm4_r ⟨by decide, by decide, by decide⟩ (by decide)).mono ?_
   rintro e wx ⟨rfl, hT⟩
   clear hS
   have hS : Stos w.heap.size w wx 2 [(b0, rm3)] _ := hT
   clear hT
   go_wp2_with fail)
  (refine (hS.o (Nat.le_refl _)).mono ?_
   rintro e wx ⟨rfl, hT⟩
   clear hS
   have hS := hT
   clear hT
   go_wp2_with fail)
  (refine (hS.put (k := 0) (Nat.le_refl _) rfl rm6_r (by decide) (by decide) (by decide)).mono ?_
   rintro e wx ⟨rfl, hT⟩
   clear hS
   have hS : Stos w.heap.size w wx 3 [(b0, rm5)] _ := hT
   clear hT
   go_wp2_with fail)
  (refine (hS.o (Nat.le_refl _)).mono ?_
   rintro e wx ⟨rfl, hT⟩
   clear hS
   have hS := hT
   clear hT
   go_wp2_with fail)
  (refine (hS.put (k := 0) (Nat.le_refl _) rfl rm8_r (by decide) (by decide) (by decide)).mono ?_
   rintro e wx ⟨rfl, hT⟩
   clear hS
   have hS : Stos w.heap.size w wx 4 [(b0, rm7)] _ := hT
   clear hT
   go_wp2_with fail)
  (refine (hS.o (Nat.le_refl _)).mono ?_
   rintro e wx ⟨rfl, hT⟩
   clear hS
   have hS := hT
   clear hT
   go_wp2_with fail)
  (refine (hS.put (k := 0) (Nat.le_refl _) rfl rm10_r (by decide) (by decide) (by decide)).mono ?_
   rintro e wx ⟨rfl, hT⟩
   clear hS
   have hS : Stos w.heap.size w wx 5 [(b0, rm9)] _ := hT
   clear hT
   go_wp2_with fail)
  (refine (hS.o (Nat.le_refl _)).mono ?_
   rintro e wx ⟨rfl, hT⟩
   clear hS
   have hS := hT
   clear hT
   go_wp2_with fail)
  (refine (hS.put (k := 0) (Nat.le_refl _) rfl rm12_r (by decide) (by decide) (by decide)).mono ?_
   rintro e wx ⟨rfl, hT⟩
   clear hS
   have hS : Stos w.heap.size w wx 6 [(b0, rm11)] _ := hT
   clear hT
   go_wp2_with fail)
  (refine (hS.o (Nat.le_refl _)).mono ?_
   rintro e wx ⟨rfl, hT⟩
   clear hS
   have hS := hT
   clear hT
   go_wp2_with fail)
  (refine (hS.put (k := 0) (Nat.le_refl _) rfl rm14_r (by decide) (by decide) (by decide)).mono ?_
   rintro e wx ⟨rfl, hT⟩
   clear hS
   have hS : Stos w.heap.size w wx 7 [(b0, rm13)] _ := hT
   clear hT
   go_wp2_with fail)
  (refine (hS.o (Nat.le_refl _)).mono ?_
   rintro e wx ⟨rfl, hT⟩
   clear hS
   have hS := hT
   clear hT
   go_wp2_with fail)
  (refine (hS.put (k := 0) (Nat.le_refl _) rfl rm16_r (by decide) (by decide) (by decide)).mono ?_
   rintro e wx ⟨rfl, hT⟩
   clear hS
   have hS : Stos w.heap.size w wx 8 [(b0, rm15)] _ := hT
   clear hT
   go_wp2_with fail)
  (refine (hS.strike (k := 0) (f := ⟨7, 0, 2, 0, 0⟩) (Nat.le_refl _) rfl rm18_r ⟨by decide, by decide, by decide⟩ (by decide)).mono ?_
   rintro e wx ⟨rfl, hT⟩
   clear hS
   have hS : Stos w.heap.size w wx 9 [(b0, rm17)] _ := hT
   clear hT
   go_wp2_with fail)
  (refine (hS.o (Nat.le_refl _)).mono ?_
   rintro e wx ⟨rfl, hT⟩
   clear hS
   have hS := hT
   clear hT
   go_wp2_with fail)
  (refine (hS.put (k := 0) (Nat.le_refl _) rfl rm20_r (by decide) (by decide) (by decide)).mono ?_
   rintro e wx ⟨rfl, hT⟩
   clear hS
   have hS : Stos w.heap.size w wx 10 [(b0, rm19)] _ := hT
   clear hT
   go_wp2_with fail)
  (refine (hS.o (Nat.le_refl _)).mono ?_
   rintro e wx ⟨rfl, hT⟩
   clear hS
   have hS := hT
   clear hT
   go_wp2_with fail)
  (refine (hS.put (k := 0) (Nat.le_refl _) rfl rm22_r (by decide) (by decide) (by decide)).mono ?_
   rintro e wx ⟨rfl, hT⟩
   clear hS
   have hS : Stos w.heap.size w wx 11 [(b0, rm21)] _ := hT
   clear hT
   go_wp2_with fail)
  (refine (hS.del (k := 0) (Nat.le_refl _) rfl rm24_r (by decide) (by decide)).mono ?_
   rintro e wx ⟨rfl, hT⟩
   clear hS
   have hS : Stos w.heap.size w wx 12 [(b0, rm23)] _ := hT
   clear hT
   go_wp2_with fail)
  (refine (hS.o (Nat.le_refl _)).mono ?_
   rintro e wx ⟨rfl, hT⟩
   clear hS
   have hS := hT
   clear hT
   go_wp2_with fail)
  (refine (hS.put (k := 0) (Nat.le_refl _) rfl rm26_r (by decide) (by decide) (by decide)).mono ?_
   rintro e wx ⟨rfl, hT⟩
   clear hS
   have hS : Stos w.heap.size w wx 13 [(b0, rm25)] _ := hT
   clear hT
   go_wp2_with fail)
  (refine (hS.strike (k := 0) (f := ⟨7, 0, 0, 0, 0⟩) (Nat.le_refl _) rfl rm28_r ⟨by decide, by decide, by decide⟩ (by decide)).mono ?_
   rintro e wx ⟨rfl, hT⟩
   clear hS
   have hS : Stos w.heap.size w wx 14 [(b0, rm27)] _ := hT
   clear hT
   go_wp2_with fail)
  (refine (hS.o (Nat.le_refl _)).mono ?_
   rintro e wx ⟨rfl, hT⟩
   clear hS
   have hS := hT
   clear hT
   go_wp2_with fail)
  (refine (hS.put (k := 0) (Nat.le_refl _) rfl rm30_r (by decide) (by decide) (by decide)).mono ?_
   rintro e wx ⟨rfl, hT⟩
   clear hS
   have hS : Stos w.heap.size w wx 15 [(b0, rm29)] _ := hT
   clear hT
   go_wp2_with fail)
  (refine (hS.o (Nat.le_refl _)).mono ?_
   rintro e wx ⟨rfl, hT⟩
   clear hS
   have hS := hT
   clear hT
   go_wp2_with fail)
  (refine (hS.put (k := 0) (Nat.le_refl _) rfl rm32_r (by decide) (by decide) (by decide)).mono ?_
   rintro e wx ⟨rfl, hT⟩
   clear hS
   have hS : Stos w.heap.size w wx 16 [(b0, rm31)] _ := hT
   clear hT
   go_wp2_with fail)
  go_ret
  exact ⟨rfl, hS.bel⟩

set_option maxHeartbeats 16000000 in
set_option maxRecDepth 100000 in
theorem law07_refuses (w : World) : Calls Try.prog 23 #[] w fun e w' => e = .returned (.bool true) ∧ Below w.heap.size w w' := by
  go_enter Try.func23, Try.ntmps23
  have hS : Stos w.heap.size w w 0 [] [] := Stos.none_ (Below.refl _ _)
  go_wp2_with fail
  (refine (hS.new (Nat.le_refl _) (by decide)).mono ?_
   rintro e wx ⟨b0, rfl, hT⟩
   clear hS
   have hS : Stos w.heap.size w wx 0 [(b0, Sto.new)] _ := hT
   clear hT
   go_wp2_with fail)
  (refine (hS.o (Nat.le_refl _)).mono ?_
   rintro e wx ⟨rfl, hT⟩
   clear hS
   have hS := hT
   clear hT
   go_wp2_with fail)
  (refine (hS.put (k := 0) (Nat.le_refl _) rfl rf2_r (by decide) (by decide) (by decide)).mono ?_
   rintro e wx ⟨rfl, hT⟩
   clear hS
   have hS : Stos w.heap.size w wx 1 [(b0, rf1)] _ := hT
   clear hT
   go_wp2_with fail)
  (refine (hS.strike (k := 0) (f := ⟨7, 0, 3, 0, 0⟩) (Nat.le_refl _) rfl rf4_r ⟨by decide, by decide, by decide⟩ (by decide)).mono ?_
   rintro e wx ⟨rfl, hT⟩
   clear hS
   have hS : Stos w.heap.size w wx 2 [(b0, rf3)] _ := hT
   clear hT
   go_wp2_with fail)
  (refine (hS.strike (k := 0) (f := ⟨6, 0, 1, 0, 0⟩) (Nat.le_refl _) rfl rf6_r ⟨by decide, by decide, by decide⟩ (by decide)).mono ?_
   rintro e wx ⟨rfl, hT⟩
   clear hS
   have hS : Stos w.heap.size w wx 3 [(b0, rf5)] _ := hT
   clear hT
   go_wp2_with fail)
  (refine (hS.sound (k := 0) rfl rf7_r).mono ?_
   rintro e wz ⟨rfl, hw⟩
   obtain rfl := hw.symm
   clear hw
   go_wp2_with fail)
  (refine (hS.o (Nat.le_refl _)).mono ?_
   rintro e wx ⟨rfl, hT⟩
   clear hS
   have hS := hT
   clear hT
   go_wp2_with fail)
  (refine (hS.put (k := 0) (Nat.le_refl _) rfl rf9_r (by decide) (by decide) (by decide)).mono ?_
   rintro e wx ⟨rfl, hT⟩
   clear hS
   have hS : Stos w.heap.size w wx 4 [(b0, rf8)] _ := hT
   clear hT
   go_wp2_with fail)
  (refine (hS.o (Nat.le_refl _)).mono ?_
   rintro e wx ⟨rfl, hT⟩
   clear hS
   have hS := hT
   clear hT
   go_wp2_with fail)
  (refine (hS.put (k := 0) (Nat.le_refl _) rfl rf11_r (by decide) (by decide) (by decide)).mono ?_
   rintro e wx ⟨rfl, hT⟩
   clear hS
   have hS : Stos w.heap.size w wx 5 [(b0, rf10)] _ := hT
   clear hT
   go_wp2_with fail)
  (refine (hS.del (k := 0) (Nat.le_refl _) rfl rf13_r (by decide) (by decide)).mono ?_
   rintro e wx ⟨rfl, hT⟩
   clear hS
   have hS : Stos w.heap.size w wx 6 [(b0, rf12)] _ := hT
   clear hT
   go_wp2_with fail)
  (refine (hS.sync (k := 0) (Nat.le_refl _) rfl rf15_r (by decide)).mono ?_
   rintro e wx ⟨rfl, hT⟩
   clear hS
   have hS : Stos w.heap.size w wx 6 [(b0, rf14)] _ := hT
   clear hT
   go_wp2_with fail)
  (refine (hS.sound (k := 0) rfl rf16_r).mono ?_
   rintro e wz ⟨rfl, hw⟩
   obtain rfl := hw.symm
   clear hw
   go_wp2_with fail)
  (refine (hS.o (Nat.le_refl _)).mono ?_
   rintro e wx ⟨rfl, hT⟩
   clear hS
   have hS := hT
   clear hT
   go_wp2_with fail)
  (refine (hS.put (k := 0) (Nat.le_refl _) rfl rf18_r (by decide) (by decide) (by decide)).mono ?_
   rintro e wx ⟨rfl, hT⟩
   clear hS
   have hS : Stos w.heap.size w wx 7 [(b0, rf17)] _ := hT
   clear hT
   go_wp2_with fail)
  (refine (hS.sound (k := 0) rfl rf19_r).mono ?_
   rintro e wz ⟨rfl, hw⟩
   obtain rfl := hw.symm
   clear hw
   go_wp2_with fail)
  (refine (hS.o (Nat.le_refl _)).mono ?_
   rintro e wx ⟨rfl, hT⟩
   clear hS
   have hS := hT
   clear hT
   go_wp2_with fail)
  (refine (hS.put (k := 0) (Nat.le_refl _) rfl rf21_r (by decide) (by decide) (by decide)).mono ?_
   rintro e wx ⟨rfl, hT⟩
   clear hS
   have hS : Stos w.heap.size w wx 8 [(b0, rf20)] _ := hT
   clear hT
   go_wp2_with fail)
  (refine (hS.strike (k := 0) (f := ⟨5, 0, 0, 0, 0⟩) (Nat.le_refl _) rfl rf23_r ⟨by decide, by decide, by decide⟩ (by decide)).mono ?_
   rintro e wx ⟨rfl, hT⟩
   clear hS
   have hS : Stos w.heap.size w wx 9 [(b0, rf22)] _ := hT
   clear hT
   go_wp2_with fail)
  (refine (hS.sound (k := 0) rfl rf24_r).mono ?_
   rintro e wz ⟨rfl, hw⟩
   obtain rfl := hw.symm
   clear hw
   go_wp2_with fail)
  (refine (hS.del (k := 0) (Nat.le_refl _) rfl rf26_r (by decide) (by decide)).mono ?_
   rintro e wx ⟨rfl, hT⟩
   clear hS
   have hS : Stos w.heap.size w wx 10 [(b0, rf25)] _ := hT
   clear hT
   go_wp2_with fail)
  (refine (hS.sound (k := 0) rfl rf27_r).mono ?_
   rintro e wz ⟨rfl, hw⟩
   obtain rfl := hw.symm
   clear hw
   go_wp2_with fail)
  (refine (hS.has (k := 0) rfl rf28_r (by decide)).mono ?_
   rintro e wz ⟨rfl, hw⟩
   obtain rfl := hw.symm
   clear hw
   go_wp2_with fail)
  (refine (hS.del (k := 0) (Nat.le_refl _) rfl rf30_r (by decide) (by decide)).mono ?_
   rintro e wx ⟨rfl, hT⟩
   clear hS
   have hS : Stos w.heap.size w wx 11 [(b0, rf29)] _ := hT
   clear hT
   go_wp2_with fail)
  (refine (hS.strike (k := 0) (f := ⟨6, 0, 9, 0, 0⟩) (Nat.le_refl _) rfl rf32_r ⟨by decide, by decide, by decide⟩ (by decide)).mono ?_
   rintro e wx ⟨rfl, hT⟩
   clear hS
   have hS : Stos w.heap.size w wx 12 [(b0, rf31)] _ := hT
   clear hT
   go_wp2_with fail)
  (refine (hS.strike (k := 0) (f := ⟨6, 0, 0, 0, 0⟩) (Nat.le_refl _) rfl rf34_r ⟨by decide, by decide, by decide⟩ (by decide)).mono ?_
   rintro e wx ⟨rfl, hT⟩
   clear hS
   have hS : Stos w.heap.size w wx 13 [(b0, rf33)] _ := hT
   clear hT
   go_wp2_with fail)
  (refine (hS.crash (k := 0) (keep := []) (Nat.le_refl _) rfl rf36_r (IntsAt.none_ _) (by decide)).mono ?_
   rintro e wx ⟨rfl, hT⟩
   clear hS
   have hS : Stos w.heap.size w wx 13 [(b0, rf35)] _ := hT
   clear hT
   go_wp2_with fail)
  (refine (hS.sound (k := 0) rfl rf37_r).mono ?_
   rintro e wz ⟨rfl, hw⟩
   obtain rfl := hw.symm
   clear hw
   go_wp2_with fail)
  (refine (hS.o (Nat.le_refl _)).mono ?_
   rintro e wx ⟨rfl, hT⟩
   clear hS
   have hS := hT
   clear hT
   go_wp2_with fail)
  (refine (hS.put (k := 0) (Nat.le_refl _) rfl rf39_r (by decide) (by decide) (by decide)).mono ?_
   rintro e wx ⟨rfl, hT⟩
   clear hS
   have hS : Stos w.heap.size w wx 14 [(b0, rf38)] _ := hT
   clear hT
   go_wp2_with fail)
  (refine (hS.copy (k := 0) (Nat.le_refl _) rfl).mono ?_
   rintro e wx ⟨b1, rfl, hT⟩
   clear hS
   have hS : Stos w.heap.size w wx 14 [(b0, rf38), (b1, rf38)] _ := hT
   clear hT
   go_wp2_with fail)
  (refine (hS.o (Nat.le_refl _)).mono ?_
   rintro e wx ⟨rfl, hT⟩
   clear hS
   have hS := hT
   clear hT
   go_wp2_with fail)
  (refine (hS.put (k := 0) (Nat.le_refl _) rfl rf41_r (by decide) (by decide) (by decide)).mono ?_
   rintro e wx ⟨rfl, hT⟩
   clear hS
   have hS : Stos w.heap.size w wx 15 [(b0, rf40), (b1, rf38)] _ := hT
   clear hT
   go_wp2_with fail)
  (refine (hS.sync (k := 0) (Nat.le_refl _) rfl rf43_r (by decide)).mono ?_
   rintro e wx ⟨rfl, hT⟩
   clear hS
   have hS : Stos w.heap.size w wx 15 [(b0, rf42), (b1, rf38)] _ := hT
   clear hT
   go_wp2_with fail)
  (refine (hS.del (k := 0) (Nat.le_refl _) rfl rf45_r (by decide) (by decide)).mono ?_
   rintro e wx ⟨rfl, hT⟩
   clear hS
   have hS : Stos w.heap.size w wx 16 [(b0, rf44), (b1, rf38)] _ := hT
   clear hT
   go_wp2_with fail)
  (have hi := ints_new wx [0] (by decide)
   have hT := hS.below (Nat.le_refl _) ((Below.refl _ wx).alloc (Nat.le_refl _) (.cells (([0] : List Int).map (fun i => Value.int .i64 i)).toArray 3))
   clear hS
   have hS := hT
   clear hT)
  (refine (hS.crash (k := 0) (keep := [0]) (Nat.le_refl _) rfl rf47_r hi (by decide)).mono ?_
   rintro e wx ⟨rfl, hT⟩
   clear hS
   have hS : Stos w.heap.size w wx 16 [(b0, rf46), (b1, rf38)] _ := hT
   clear hT
   go_wp2_with fail)
  (refine (hS.get (k := 0) rfl rf48_r (by decide)).mono ?_
   rintro e wz ⟨rfl, hw⟩
   obtain rfl := hw.symm
   clear hw
   go_wp2_with fail)
  (refine (hS.copy (k := 1) (Nat.le_refl _) rfl).mono ?_
   rintro e wx ⟨b2, rfl, hT⟩
   clear hS
   have hS : Stos w.heap.size w wx 16 [(b0, rf46), (b1, rf38), (b2, rf38)] _ := hT
   clear hT
   go_wp2_with fail)
  (refine (hS.sound (k := 0) rfl rf49_r).mono ?_
   rintro e wz ⟨rfl, hw⟩
   obtain rfl := hw.symm
   clear hw
   go_wp2_with fail)
  (refine (hS.o (Nat.le_refl _)).mono ?_
   rintro e wx ⟨rfl, hT⟩
   clear hS
   have hS := hT
   clear hT
   go_wp2_with fail)
  (refine (hS.put (k := 0) (Nat.le_refl _) rfl rf51_r (by decide) (by decide) (by decide)).mono ?_
   rintro e wx ⟨rfl, hT⟩
   clear hS
   have hS : Stos w.heap.size w wx 17 [(b0, rf50), (b1, rf38), (b2, rf38)] _ := hT
   clear hT
   go_wp2_with fail)
  (refine (hS.strike (k := 2) (f := ⟨7, 0, 4, 0, 0⟩) (Nat.le_refl _) rfl rf53_r ⟨by decide, by decide, by decide⟩ (by decide)).mono ?_
   rintro e wx ⟨rfl, hT⟩
   clear hS
   have hS : Stos w.heap.size w wx 18 [(b0, rf50), (b1, rf38), (b2, rf52)] _ := hT
   clear hT
   go_wp2_with fail)
  (refine (hS.same (k := 1) (j := 2) (v := false) (Nat.le_refl _) rfl rfl (by (first | rfl | kernel_rfl)) (by (first | rfl | kernel_rfl)) (by (first | rfl | kernel_rfl))).mono ?_
   rintro e wx ⟨rfl, hT⟩
   clear hS
   have hS : Stos w.heap.size w wx 18 [(b0, rf50), (b1, rf38), (b2, rf52)] _ := hT
   clear hT
   go_wp2_with fail)
  go_ret
  exact ⟨rfl, hS.bel⟩

set_option maxHeartbeats 16000000 in
set_option maxRecDepth 100000 in
theorem law07_faults (w : World) : Calls Try.prog 21 #[] w fun e w' => e = .returned (.bool true) ∧ Below w.heap.size w w' := by
  go_enter Try.func21, Try.ntmps21
  have hS : Stos w.heap.size w w 0 [] [] := Stos.none_ (Below.refl _ _)
  go_wp2_with fail
  ((refine (hS.new (Nat.le_refl _) (by decide)).mono ?_
    rintro e wx ⟨b0, rfl, hT⟩
    clear hS
    have hS : Stos w.heap.size w wx 0 [(b0, Sto.new)] _ := hT
    clear hT
    go_wp2_with fail)
   (refine (hS.o (Nat.le_refl _)).mono ?_
    rintro e wx ⟨rfl, hT⟩
    clear hS
    have hS := hT
    clear hT
    go_wp2_with fail)
   (refine (hS.o (Nat.le_refl _)).mono ?_
    rintro e wx ⟨rfl, hT⟩
    clear hS
    have hS := hT
    clear hT
    go_wp2_with fail)
   (refine (hS.o (Nat.le_refl _)).mono ?_
    rintro e wx ⟨rfl, hT⟩
    clear hS
    have hS := hT
    clear hT
    go_wp2_with fail)
   have hT := hS.alloc (Nat.le_refl _) (.cells (fOb.flatMap obCells).toArray 30)
   clear hS
   go_loopw [3, 16] (fun _ ti wr => ∃ k : Nat, k ≤ 3 ∧ ti = .int .i64 k ∧ Stos w.heap.size w wr k [(b0, flS k)] [(wx.heap.size, .cells (fOb.flatMap obCells).toArray 30)]) (fun _ ti _ => 3 - (intOf ti).toNat)
   case atStart => exact ⟨0, Nat.zero_le _, rfl, hT⟩
   clear hT
   obtain ⟨k, hk, rfl, hS⟩ := hrel
   obtain ⟨wp, rfl⟩ : ∃ x : World, x = wr := ⟨_, rfl⟩
   rcases Nat.lt_or_ge k 3 with hlt | hge
   case inl =>
     have hrow : ObsAt wp (wx.heap.size + 1) (some ⟨wx.heap.size, 0, none⟩) 3 fOb := rowHeap (k := 2) (enc := obCells) (fun x => objE.len x) hS.row (by decide)
     obtain ⟨b9, off, p, e9, hb9, hx, c0, c1⟩ := hrow.ob hlt
     cases e9
     obtain ⟨hp1, hp2, hp3⟩ := fl_put k p hx
     replace hx := Lib.hid hx
     replace hp1 := Lib.hid hp1
     replace hS := Lib.hid hS
     clear hrow
     obtain ⟨pn, pd⟩ := p
     dsimp only at c0 c1 hp2 hp3
     simp only [Nat.zero_add] at c0 c1
     go_wp2_with fail
     refine ((hS.out.below (Nat.le_refl _) ((by repeat (first | exact Below.refl _ _ | assumption | refine Below.drew ?_ | refine below_drewN ?_ _ | refine Below.alloc ?_ (by first | omega | (simp; try omega)) _ | refine Below.setCell ?_ (by first | omega | (simp; try omega)) _ | (refine Below.trans ?_ (Below.mono (by assumption) (by first | omega | (simp; try omega)))))))).put (k := 0) (Nat.le_refl _) rfl hp1.out hp2 hp3 (by omega)).mono ?_
     rintro e wy ⟨rfl, hT⟩
     go_wp2_with fail
     go_roundw
     case rel => exact ⟨k + 1, by omega, by go_num, hT⟩
     case measure => simp [intOf]; omega
   obtain rfl : k = 3 := by omega
   have hT : Stos w.heap.size w wp 3 [(b0, fl3)] _ := hS
   clear hS hk hge
   have hS := hT
   clear hT
   go_wp2_with fail)
  (refine (hS.strike (k := 0) (f := ⟨3, 0, 5, 4, 120⟩) (Nat.le_refl _) rfl fa2_r ⟨by decide, by decide, by decide⟩ (by decide)).mono ?_
   rintro e wx ⟨rfl, hT⟩
   clear hS
   have hS : Stos w.heap.size w wx 4 [(b0, fa1)] _ := hT
   clear hT
   go_wp2_with fail)
  (refine (hS.crash (k := 0) (keep := []) (Nat.le_refl _) rfl fa4_r (IntsAt.none_ _) (by decide)).mono ?_
   rintro e wx ⟨rfl, hT⟩
   clear hS
   have hS : Stos w.heap.size w wx 4 [(b0, fa3)] _ := hT
   clear hT
   go_wp2_with fail)
  (refine (hS.has (k := 0) rfl fa5_r (by decide)).mono ?_
   rintro e wz ⟨rfl, hw⟩
   obtain rfl := hw.symm
   clear hw
   go_wp2_with fail)
  (refine (hS.strike (k := 0) (f := ⟨3, 0, 1, 0, 120⟩) (Nat.le_refl _) rfl fa7_r ⟨by decide, by decide, by decide⟩ (by decide)).mono ?_
   rintro e wx ⟨rfl, hT⟩
   clear hS
   have hS : Stos w.heap.size w wx 5 [(b0, fa6)] _ := hT
   clear hT
   go_wp2_with fail)
  (refine (hS.has (k := 0) rfl fa8_r (by decide)).mono ?_
   rintro e wz ⟨rfl, hw⟩
   obtain rfl := hw.symm
   clear hw
   go_wp2_with fail)
  (refine (hS.strike (k := 0) (f := ⟨2, 0, 3, 0, 0⟩) (Nat.le_refl _) rfl fa10_r ⟨by decide, by decide, by decide⟩ (by decide)).mono ?_
   rintro e wx ⟨rfl, hT⟩
   clear hS
   have hS : Stos w.heap.size w wx 6 [(b0, fa9)] _ := hT
   clear hT
   go_wp2_with fail)
  (refine (hS.objs (k := 0) (n := 2) (os := [(⟨#[98]⟩, ⟨#[]⟩), (⟨#[99]⟩, ⟨#[51, 120, 51]⟩)]) (Nat.le_refl _) rfl rfl rfl).mono ?_
   rintro e wx ⟨A9, c9, rfl, o9, hT⟩
   clear hS
   have hS : Stos w.heap.size w wx 6 [(b0, fa9)] _ := hT
   clear hT o9
   go_wp2_with fail)
  (refine (hS.objs (k := 0) (n := 2) (os := [(⟨#[98]⟩, ⟨#[]⟩), (⟨#[99]⟩, ⟨#[51, 120, 51]⟩)]) (Nat.le_refl _) rfl rfl rfl).mono ?_
   rintro e wx ⟨A9, c9, rfl, o9, hT⟩
   clear hS
   have hS : Stos w.heap.size w wx 6 [(b0, fa9)] _ := hT
   clear hT
   obtain ⟨b9, off9, p9, rfl, hb9, hx9, q9, r9⟩ := o9.ob (i := 0) (by decide)
   cases hx9
   simp only [Nat.zero_mul, Nat.add_zero] at q9 r9
   go_wp2_with fail)
  (refine (hS.o (Nat.le_refl _)).mono ?_
   rintro e wx ⟨rfl, hT⟩
   clear hS
   have hS := hT
   clear hT
   go_wp2_with fail)
  (refine (hS.put (k := 0) (Nat.le_refl _) rfl fa12_r (by decide) (by decide) (by decide)).mono ?_
   rintro e wx ⟨rfl, hT⟩
   clear hS
   have hS : Stos w.heap.size w wx 7 [(b0, fa11)] _ := hT
   clear hT
   go_wp2_with fail)
  (refine (hS.crash (k := 0) (keep := []) (Nat.le_refl _) rfl fa14_r (IntsAt.none_ _) (by decide)).mono ?_
   rintro e wx ⟨rfl, hT⟩
   clear hS
   have hS : Stos w.heap.size w wx 7 [(b0, fa13)] _ := hT
   clear hT
   go_wp2_with fail)
  (refine (hS.objs (k := 0) (n := 2) (os := [(⟨#[98]⟩, ⟨#[]⟩), (⟨#[99]⟩, ⟨#[51, 120, 51]⟩)]) (Nat.le_refl _) rfl rfl rfl).mono ?_
   rintro e wx ⟨A9, c9, rfl, o9, hT⟩
   clear hS
   have hS : Stos w.heap.size w wx 7 [(b0, fa13)] _ := hT
   clear hT o9
   go_wp2_with fail)
  (refine (hS.strike (k := 0) (f := ⟨4, 0, 0, 0, 0⟩) (Nat.le_refl _) rfl fa16_r ⟨by decide, by decide, by decide⟩ (by decide)).mono ?_
   rintro e wx ⟨rfl, hT⟩
   clear hS
   have hS : Stos w.heap.size w wx 8 [(b0, fa15)] _ := hT
   clear hT
   go_wp2_with fail)
  (refine (hS.up (k := 0) (v := false) rfl rfl).mono ?_
   rintro e wz ⟨rfl, hw⟩
   obtain rfl := hw.symm
   clear hw
   go_wp2_with fail)
  (refine (hS.sound (k := 0) rfl fa17_r).mono ?_
   rintro e wz ⟨rfl, hw⟩
   obtain rfl := hw.symm
   clear hw
   go_wp2_with fail)
  (refine (hS.o (Nat.le_refl _)).mono ?_
   rintro e wx ⟨rfl, hT⟩
   clear hS
   have hS := hT
   clear hT
   go_wp2_with fail)
  (refine (hS.put (k := 0) (Nat.le_refl _) rfl fa19_r (by decide) (by decide) (by decide)).mono ?_
   rintro e wx ⟨rfl, hT⟩
   clear hS
   have hS : Stos w.heap.size w wx 9 [(b0, fa18)] _ := hT
   clear hT
   go_wp2_with fail)
  (refine (hS.del (k := 0) (Nat.le_refl _) rfl fa21_r (by decide) (by decide)).mono ?_
   rintro e wx ⟨rfl, hT⟩
   clear hS
   have hS : Stos w.heap.size w wx 10 [(b0, fa20)] _ := hT
   clear hT
   go_wp2_with fail)
  (refine (hS.sync (k := 0) (Nat.le_refl _) rfl fa23_r (by decide)).mono ?_
   rintro e wx ⟨rfl, hT⟩
   clear hS
   have hS : Stos w.heap.size w wx 10 [(b0, fa22)] _ := hT
   clear hT
   go_wp2_with fail)
  (refine (hS.o (Nat.le_refl _)).mono ?_
   rintro e wx ⟨rfl, hT⟩
   clear hS
   have hS := hT
   clear hT
   go_wp2_with fail)
  (refine (hS.put (k := 0) (Nat.le_refl _) rfl fa25_r (by decide) (by decide) (by decide)).mono ?_
   rintro e wx ⟨rfl, hT⟩
   clear hS
   have hS : Stos w.heap.size w wx 11 [(b0, fa24)] _ := hT
   clear hT
   go_wp2_with fail)
  (refine (hS.objs (k := 0) (n := 2) (os := [(⟨#[98]⟩, ⟨#[]⟩), (⟨#[99]⟩, ⟨#[51, 120, 51]⟩)]) (Nat.le_refl _) rfl rfl rfl).mono ?_
   rintro e wx ⟨A9, c9, rfl, o9, hT⟩
   clear hS
   have hS : Stos w.heap.size w wx 11 [(b0, fa24)] _ := hT
   clear hT o9
   go_wp2_with fail)
  (refine (hS.get (k := 0) rfl fa26_r (by decide)).mono ?_
   rintro e wz ⟨rfl, hw⟩
   obtain rfl := hw.symm
   clear hw
   go_wp2_with fail)
  (refine (hS.list (k := 0) (n := 0) (z := 51) (Nat.le_refl _) rfl rfl rfl).mono ?_
   rintro e wx ⟨A9, c9, rfl, hT⟩
   clear hS
   have hS : Stos w.heap.size w wx 11 [(b0, fa24)] _ := hT
   clear hT
   go_wp2_with fail)
  (refine (hS.strike (k := 0) (f := ⟨2, 0, 0, 0, 0⟩) (Nat.le_refl _) rfl fa28_r ⟨by decide, by decide, by decide⟩ (by decide)).mono ?_
   rintro e wx ⟨rfl, hT⟩
   clear hS
   have hS : Stos w.heap.size w wx 12 [(b0, fa27)] _ := hT
   clear hT
   go_wp2_with fail)
  (refine (hS.objs (k := 0) (n := 1) (os := [(⟨#[99]⟩, ⟨#[51, 120, 51]⟩)]) (Nat.le_refl _) rfl rfl rfl).mono ?_
   rintro e wx ⟨A9, c9, rfl, o9, hT⟩
   clear hS
   have hS : Stos w.heap.size w wx 12 [(b0, fa27)] _ := hT
   clear hT o9
   go_wp2_with fail)
  (refine (hS.crash (k := 0) (keep := []) (Nat.le_refl _) rfl fa30_r (IntsAt.none_ _) (by decide)).mono ?_
   rintro e wx ⟨rfl, hT⟩
   clear hS
   have hS : Stos w.heap.size w wx 12 [(b0, fa29)] _ := hT
   clear hT
   go_wp2_with fail)
  (refine (hS.up (k := 0) (v := false) rfl rfl).mono ?_
   rintro e wz ⟨rfl, hw⟩
   obtain rfl := hw.symm
   clear hw
   go_wp2_with fail)
  (refine (hS.strike (k := 0) (f := ⟨5, 0, 0, 0, 0⟩) (Nat.le_refl _) rfl fa32_r ⟨by decide, by decide, by decide⟩ (by decide)).mono ?_
   rintro e wx ⟨rfl, hT⟩
   clear hS
   have hS : Stos w.heap.size w wx 13 [(b0, fa31)] _ := hT
   clear hT
   go_wp2_with fail)
  (refine (hS.sound (k := 0) rfl fa33_r).mono ?_
   rintro e wz ⟨rfl, hw⟩
   obtain rfl := hw.symm
   clear hw
   go_wp2_with fail)
  (refine (hS.o (Nat.le_refl _)).mono ?_
   rintro e wx ⟨rfl, hT⟩
   clear hS
   have hS := hT
   clear hT
   go_wp2_with fail)
  (refine (hS.put (k := 0) (Nat.le_refl _) rfl fa35_r (by decide) (by decide) (by decide)).mono ?_
   rintro e wx ⟨rfl, hT⟩
   clear hS
   have hS : Stos w.heap.size w wx 14 [(b0, fa34)] _ := hT
   clear hT
   go_wp2_with fail)
  (refine (hS.strike (k := 0) (f := ⟨1, 0, 0, 0, 0⟩) (Nat.le_refl _) rfl fa37_r ⟨by decide, by decide, by decide⟩ (by decide)).mono ?_
   rintro e wx ⟨rfl, hT⟩
   clear hS
   have hS : Stos w.heap.size w wx 15 [(b0, fa36)] _ := hT
   clear hT
   go_wp2_with fail)
  (have hi := ints_new wx [65536, 65536] (by decide)
   have hT := hS.below (Nat.le_refl _) ((Below.refl _ wx).alloc (Nat.le_refl _) (.cells (([65536, 65536] : List Int).map (fun i => Value.int .i64 i)).toArray 3))
   clear hS
   have hS := hT
   clear hT)
  (refine (hS.crash (k := 0) (keep := [65536, 65536]) (Nat.le_refl _) rfl fa39_r hi (by decide)).mono ?_
   rintro e wx ⟨rfl, hT⟩
   clear hS
   have hS : Stos w.heap.size w wx 15 [(b0, fa38)] _ := hT
   clear hT
   go_wp2_with fail)
  (refine (hS.objs (k := 0) (n := 0) (os := []) (Nat.le_refl _) rfl rfl rfl).mono ?_
   rintro e wx ⟨A9, c9, rfl, o9, hT⟩
   clear hS
   have hS : Stos w.heap.size w wx 15 [(b0, fa38)] _ := hT
   clear hT o9
   go_wp2_with fail)
  (refine (hS.strike (k := 0) (f := ⟨2, 0, 0, 0, 0⟩) (Nat.le_refl _) rfl fa41_r ⟨by decide, by decide, by decide⟩ (by decide)).mono ?_
   rintro e wx ⟨rfl, hT⟩
   clear hS
   have hS : Stos w.heap.size w wx 16 [(b0, fa40)] _ := hT
   clear hT
   go_wp2_with fail)
  (refine (hS.strike (k := 0) (f := ⟨3, 0, 0, 0, 0⟩) (Nat.le_refl _) rfl fa43_r ⟨by decide, by decide, by decide⟩ (by decide)).mono ?_
   rintro e wx ⟨rfl, hT⟩
   clear hS
   have hS : Stos w.heap.size w wx 17 [(b0, fa42)] _ := hT
   clear hT
   go_wp2_with fail)
  (refine (hS.list (k := 0) (n := 0) (z := 0) (Nat.le_refl _) rfl rfl rfl).mono ?_
   rintro e wx ⟨A9, c9, rfl, hT⟩
   clear hS
   have hS : Stos w.heap.size w wx 17 [(b0, fa42)] _ := hT
   clear hT
   go_wp2_with fail)
  go_ret
  exact ⟨rfl, hS.bel⟩
end Go.Proofs.Ytfkonpmnclknaaa
