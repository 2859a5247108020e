/- Plain facts on texts: numbers in decimal, texts divided at a byte, lists of numbers as text, names. No program in sight. -/
import Derived.Lib.ItoaNum
import Derived.Lib.ParseIntBCases
import Derived.Lib.Split
import Derived.Lib.SplitLaws
import Derived.Lib.CountLaws
import Derived.Lib.Join
import Derived.Lib.IndexBytes
import Derived.Lib.Strings
namespace Go.Proofs.YtimgebbbonfopaaDoor.Plain
open Go Go.Lib

/-! ### numbers in decimal -/
def digB (c : UInt8) : Bool := decide (48 ≤ c.toNat) && decide (c.toNat ≤ 57)
theorem dec_small {u : Nat} (h : u < 10) : decDigits u = [UInt8.ofNat (48 + u)] := by rw [decDigits, dif_pos h]
theorem dec_snoc {a d : Nat} (ha : 1 ≤ a) (hd : d < 10) : decDigits (10 * a + d) = decDigits a ++ [UInt8.ofNat (48 + d)] := by
  rw [decDigits, dif_neg (by omega), show (10 * a + d) / 10 = a by omega, show (10 * a + d) % 10 = d by omega]
end Go.Proofs.YtimgebbbonfopaaDoor.Plain
