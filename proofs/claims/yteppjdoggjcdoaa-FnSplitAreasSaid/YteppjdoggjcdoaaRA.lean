/- Plain laws of rings: the area and the border have the same parity. -/
import Derived.Test.YteppjdoggjcdoaaSA
namespace Go.Proofs.Yteppjdoggjcdoaa
open Go.RowKit

theorem nat_gcd_odd (a b : Nat) : Nat.gcd a b % 2 = (a + b + a * b) % 2 := by
  have h1 : 2 ∣ Nat.gcd a b ↔ 2 ∣ a ∧ 2 ∣ b := Nat.dvd_gcd_iff
  rw [Nat.add_mod, Nat.mul_mod, Nat.add_mod a b]
  rcases Nat.mod_two_eq_zero_or_one a with ha | ha <;> rcases Nat.mod_two_eq_zero_or_one b with hb | hb <;> rw [ha, hb] <;> simp <;> omega
theorem gcd_par (x z : Int) : ((gcdI x z : Nat) : Int) % 2 = (x + z + x * z) % 2 := by
  have h := nat_gcd_odd x.natAbs z.natAbs
  unfold gcdI
  have hx : (x.natAbs : Int) % 2 = x % 2 := by omega
  have hz : (z.natAbs : Int) % 2 = z % 2 := by omega
  have : ((Nat.gcd x.natAbs z.natAbs : Nat) : Int) % 2 = ((x.natAbs : Int) + (z.natAbs : Int) + (x.natAbs : Int) * (z.natAbs : Int)) % 2 := by
    rw [← Int.natCast_mul, ← Int.natCast_add, ← Int.natCast_add]
    omega
  rw [this, Int.add_emod, Int.mul_emod, hx, hz, Int.add_emod (x.natAbs : Int), hx, hz, ← Int.mul_emod, ← Int.add_emod x z, ← Int.add_emod]
/-- a quantity that goes round a ring: the border and the area so far differ, mod 2, by what the ends say -/
theorem border_area (ps : List (Int × Int)) : ∀ k : Nat, (borderTo ps k - areaTo ps k) % 2 = (ptx ps k + ptz ps k + ptx ps k * ptz ps k - (ptx ps 0 + ptz ps 0 + ptx ps 0 * ptz ps 0)) % 2
  | 0 => by simp [borderTo, areaTo]
  | k + 1 => by
    have ih := border_area ps k
    have hg := gcd_par (ptx ps ((k : Int) + 1) - ptx ps k) (ptz ps ((k : Int) + 1) - ptz ps k)
    rw [borderTo, areaTo, edgeG]
    rw [show ((k + 1 : Nat) : Int) = (k : Int) + 1 from rfl]
    generalize ptx ps ((k : Int) + 1) = x' at *
    generalize ptz ps ((k : Int) + 1) = z' at *
    generalize ptx ps (k : Int) = x at *
    generalize ptz ps (k : Int) = z at *
    generalize ptx ps 0 = x0 at *
    generalize ptz ps 0 = z0 at *
    rw [show x' - x + (z' - z) + (x' - x) * (z' - z) = x' + z' - x - z + (x' * z' - x' * z - x * z' + x * z) by grind] at hg
    generalize ((gcdI (x' - x) (z' - z) : Nat) : Int) = g at *
    rw [Int.mul_comm z x']
    generalize x' * z' = a at *
    generalize x' * z = b at *
    generalize x * z' = c at *
    generalize x * z = d at *
    generalize x0 * z0 = f at *
    omega
theorem area_border (ps : List (Int × Int)) : (borderZ ps - areaZ ps) % 2 = 0 := by
  have h := border_area ps ps.length
  have hx : ptx ps (ps.length : Int) = ptx ps 0 := by have := ptx_round ps 0; simpa using this
  have hz : ptz ps (ps.length : Int) = ptz ps 0 := by have := ptz_round ps 0; simpa using this
  rw [hx, hz] at h
  unfold borderZ areaZ
  omega
/-- the numbers of points fit the area -/
theorem pick_law {ps : List (Int × Int)} (h : ringB ps = true) : areaA ps = 2 * insideZ ps + borderZ ps - 2 := by
  have hp := area_border ps
  have ha := areaA_bd h
  have hb := borderZ_bd h
  unfold insideZ wrap64
  have hA : (areaA ps - borderZ ps) % 2 = 0 := by unfold areaA; omega
  have ht : (areaA ps - borderZ ps).tdiv 2 * 2 = areaA ps - borderZ ps := Int.tdiv_mul_cancel (Int.dvd_of_emod_eq_zero hA)
  omega
end Go.Proofs.Yteppjdoggjcdoaa
