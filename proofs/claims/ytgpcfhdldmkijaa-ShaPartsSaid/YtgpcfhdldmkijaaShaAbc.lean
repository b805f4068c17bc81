/- The digest of three letters. -/
import Derived.Test.YtgpcfhdldmkijaaShaParse
namespace Go.Proofs.Ytgpcfhdldmkijaa
open Go.RowKit

def baL : List UInt8 := [98, 97, 55, 56, 49, 54, 98, 102, 56, 102, 48, 49, 99, 102, 101, 97, 52, 49, 52, 49, 52, 48, 100, 101, 53, 100, 97, 101, 50, 50, 50, 51, 98, 48, 48, 51, 54, 49, 97, 51, 57, 54, 49, 55, 55, 97, 57, 99, 98, 52, 49, 48, 102, 102, 54, 49, 102, 50, 48, 48, 49, 53, 97, 100]
theorem ba_len : baL.length = 64 := by decide +kernel
theorem ba_ok : Sha.okB baL = true := by decide +kernel
theorem ba_sum : Sha.parsed baL = Sha.sum [97, 98, 99] := by decide +kernel
theorem ba_hex : Sha.hex (Sha.sum [97, 98, 99]) = baL := by decide +kernel
theorem BA_no : Sha.okB [66, 65] = false := by decide +kernel
end Go.Proofs.Ytgpcfhdldmkijaa
