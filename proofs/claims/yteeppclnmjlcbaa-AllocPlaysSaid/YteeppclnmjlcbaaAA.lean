/- The walk over math/bits.OnesCount64. -/
import Derived.Test.YteeppclnmjlcbaaRows
import Derived.Test.YteeppclnmjlcbaaLibB
import Derived.Test.YteeppclnmjlcbaaLibC
import Derived.Test.YteeppclnmjlcbaaLib
import Derived.Deep.DeepMust
import Derived.Handy
import Derived.WalkSmall
import Derived.Laws.Bits64
import Derived.Test.YteeppclnmjlcbaaFPlain
import Derived.Test.YteeppclnmjlcbaaPopP
namespace Go.Proofs.Yteeppclnmjlcbaa
open Go.RowKit Go.Amb
set_option linter.unusedVariables false

theorem u64_and (x y : Nat) (hx : x < 18446744073709551616) (hy : y < 18446744073709551616) : bits .and .u64 (x : Int) (y : Int) = ((x &&& y : Nat) : Int) := by
  show IntKind.u64.wrap (((BitVec.ofInt 64 (x : Int)) &&& (BitVec.ofInt 64 (y : Int))).toNat : Int) = _
  rw [BitVec.toNat_and, BitVec.toNat_ofInt, BitVec.toNat_ofInt]
  have ex : ((x : Int) % ((2 ^ 64 : Nat) : Int)).toNat = x := by omega
  have ey : ((y : Int) % ((2 ^ 64 : Nat) : Int)).toNat = y := by omega
  rw [ex, ey]
  have := Nat.and_le_left (n := x) (m := y)
  exact IntWalk.u64_in _ ⟨by omega, by omega⟩
def os1 (x : Int) : Int := IntKind.u64.wrap (bits .and .u64 (x / 2) 6148914691236517205 + bits .and .u64 x 6148914691236517205)
def os2 (x : Int) : Int := IntKind.u64.wrap (bits .and .u64 (x / 4) 3689348814741910323 + bits .and .u64 x 3689348814741910323)
def os3 (x : Int) : Int := bits .and .u64 (IntKind.u64.wrap (x / 16 + x)) 1085102592571150095
def os4 (x : Int) : Int := IntKind.u64.wrap (x + x / 256)
def os5 (x : Int) : Int := IntKind.u64.wrap (x + x / 65536)
def os6 (x : Int) : Int := IntKind.u64.wrap (x + x / 4294967296)
theorem os1_eq {x s : Nat} (hx : x < 18446744073709551616) (e : (x / 2 &&& 6148914691236517205) + (x &&& 6148914691236517205) = s) (h : s < 18446744073709551616) : os1 (x : Int) = (s : Int) := by
  have a : bits .and .u64 ((x : Int) / 2) 6148914691236517205 = ((x / 2 &&& 6148914691236517205 : Nat) : Int) := u64_and (x / 2) 6148914691236517205 (by omega) (by decide)
  have b : bits .and .u64 (x : Int) 6148914691236517205 = ((x &&& 6148914691236517205 : Nat) : Int) := u64_and x 6148914691236517205 hx (by decide)
  unfold os1
  rw [a, b, ← Int.natCast_add, e]
  exact IntWalk.u64_in _ ⟨by omega, by omega⟩
theorem os2_eq {x s : Nat} (hx : x < 18446744073709551616) (e : (x / 4 &&& 3689348814741910323) + (x &&& 3689348814741910323) = s) (h : s < 18446744073709551616) : os2 (x : Int) = (s : Int) := by
  have a : bits .and .u64 ((x : Int) / 4) 3689348814741910323 = ((x / 4 &&& 3689348814741910323 : Nat) : Int) := u64_and (x / 4) 3689348814741910323 (by omega) (by decide)
  have b : bits .and .u64 (x : Int) 3689348814741910323 = ((x &&& 3689348814741910323 : Nat) : Int) := u64_and x 3689348814741910323 hx (by decide)
  unfold os2
  rw [a, b, ← Int.natCast_add, e]
  exact IntWalk.u64_in _ ⟨by omega, by omega⟩
theorem os3_eq {x s : Nat} (hx : x / 16 + x < 18446744073709551616) (e : (x / 16 + x &&& 1085102592571150095) = s) : os3 (x : Int) = (s : Int) := by
  have a : bits .and .u64 (((x / 16 + x : Nat) : Int)) 1085102592571150095 = ((x / 16 + x &&& 1085102592571150095 : Nat) : Int) := u64_and (x / 16 + x) 1085102592571150095 hx (by decide)
  unfold os3
  rw [show (x : Int) / 16 + (x : Int) = ((x / 16 + x : Nat) : Int) by omega, IntWalk.u64_in _ ⟨by omega, by omega⟩, a, e]
theorem os4_eq {x s : Nat} (e : x + x / 256 = s) (h : s < 18446744073709551616) : os4 (x : Int) = (s : Int) := by
  unfold os4; rw [IntWalk.u64_in _ ⟨by omega, by omega⟩]; omega
theorem os5_eq {x s : Nat} (e : x + x / 65536 = s) (h : s < 18446744073709551616) : os5 (x : Int) = (s : Int) := by
  unfold os5; rw [IntWalk.u64_in _ ⟨by omega, by omega⟩]; omega
theorem os6_eq {x s : Nat} (e : x + x / 4294967296 = s) (h : s < 18446744073709551616) : os6 (x : Int) = (s : Int) := by
  unfold os6; rw [IntWalk.u64_in _ ⟨by omega, by omega⟩]; omega
theorem and127 (x : Nat) : bits .and .i64 (wrap64 (x : Int)) 127 = (x : Int) % 128 := by
  have hm : bits .and .i64 (wrap64 (x : Int)) 127 = wrap64 (x : Int) % 2 ^ 7 := and_mask (wrap64 (x : Int)) 7 (by decide)
  rw [hm]
  unfold wrap64
  omega
theorem os_all (x : Nat) (hx : x < 18446744073709551616) : bits .and .i64 (wrap64 (os6 (os5 (os4 (os3 (os2 (os1 (x : Int)))))))) 127 = (popc 64 x : Nat) := by
  obtain ⟨s1, s2, e1, h1, e2, h2, h3, e3⟩ := pop3 x hx
  obtain ⟨s4, s5, s6, e4, h4, e5, h5, e6, h6, e7⟩ := pop_last x
  rw [← e3] at e4
  obtain ⟨s3, e3'⟩ : ∃ s3, (s2 / 16 + s2 &&& 1085102592571150095) = s3 := ⟨_, rfl⟩
  rw [e3'] at e4
  rw [os1_eq hx e1 h1, os2_eq h1 e2 h2, os3_eq h3 e3', os4_eq e4 h4, os5_eq e5 h5, os6_eq e6 h6, and127, ← e7]
  omega
set_option maxHeartbeats 1000000 in
theorem onesCount (x : Nat) (w : World) (hx : x < 18446744073709551616) : Calls Try.prog 25 #[.int .u64 (x : Int)] w (fun e w' => e = .returned (.int .i64 (popc 64 x : Nat)) ∧ w' = w) := by
  go_enter Try.func25, Try.ntmps25
  go_wp2_with fail
  go_ret
  exact ⟨congrArg (fun z => Ending.returned (Value.int .i64 z)) (os_all x hx), rfl⟩
end Go.Proofs.Yteeppclnmjlcbaa
