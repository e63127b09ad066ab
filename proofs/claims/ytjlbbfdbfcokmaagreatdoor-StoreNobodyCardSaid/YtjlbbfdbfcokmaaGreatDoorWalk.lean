/- 'gemellaw18.StoreNobody' on the abstract machine: whatever is handed in, it says true. No condition. -/
import Derived.Test.YtjlbbfdbfcokmaaGreatDoorTab
namespace Go.Proofs.YtjlbbfdbfcokmaaGreatDoor.gm
open Go Go.Gm
set_option maxRecDepth 100000
def refl : Refl := { vo := 76, ln := 78, sw := 77, lit1 := 112, lit2 := 113, gs := 3, ts := [23] }
def tz0 : List Int := [1, 10, 100, 1000, 10000, 100000, 1000000, 10000000, 100000000, 1000000000, 10000000000, 100000000000, 1000000000000, 10000000000000, 100000000000000, 1000000000000000, 10000000000000000, 100000000000000000, 1000000000000000000, 10000000000000000000]
def tv0 : List Value := tz0.map fun z => .int .u64 z
def tz1 : List Int := [0, 1, 28, 2, 29, 14, 24, 3, 30, 22, 20, 15, 25, 17, 4, 8, 31, 27, 13, 23, 21, 19, 16, 7, 26, 12, 18, 6, 11, 5, 10, 9]
def tv1 : List Value := tz1.map fun z => .int .u8 z
def tz2 : List Int := [0, 1, 56, 2, 57, 49, 28, 3, 61, 58, 42, 50, 38, 29, 17, 4, 62, 47, 59, 36, 45, 43, 51, 22, 53, 39, 33, 30, 24, 18, 12, 5, 63, 55, 48, 27, 60, 41, 37, 16, 46, 35, 44, 21, 52, 32, 23, 11, 54, 26, 40, 15, 34, 20, 31, 10, 25, 14, 19, 9, 13, 8, 7, 6]
def tv2 : List Value := tz2.map fun z => .int .u8 z
def start : AH := { t := .node (.node .leaf (some (.ro tv1)) .leaf) (some (.ro tv0)) (.node .leaf (some (.ro tv2)) .leaf), n := 8 }
theorem runsK (k n m : Int) (o1 o2 o3 : Option Addr) (l1 c1 l2 c2 l3 c3 : Nat) (s : ByteArray) :
    Go.Gm.isTrue (callK tab (reflOwn tab refl) 200 30 (.fn 3) [.agg #[.int .i64 k, .slice o1 l1 c1, .slice o2 l2 c2, .string s, .slice o3 l3 c3, .int .i64 n, .int .i64 m]] start) = true := by kernel_rfl
theorem runs (k n m : Int) (o1 o2 o3 : Option Addr) (l1 c1 l2 c2 l3 c3 : Nat) (s : ByteArray) :
    Go.Gm.isTrue (callV tab (reflOwn tab refl) 200 30 (.fn 3) [.agg #[.int .i64 k, .slice o1 l1 c1, .slice o2 l2 c2, .string s, .slice o3 l3 c3, .int .i64 n, .int .i64 m]] start) = true := by
  rw [← callK_eq]; exact runsK k n m o1 o2 o3 l1 c1 l2 c2 l3 c3 s
end Go.Proofs.YtjlbbfdbfcokmaaGreatDoor.gm
