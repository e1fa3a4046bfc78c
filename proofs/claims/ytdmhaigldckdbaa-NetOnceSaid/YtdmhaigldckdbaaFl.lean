/- One bit of a row of bytes turned about. -/
import Derived.Test.YtdmhaigldckdbaaMem
namespace Go.Proofs.Ytdmhaigldckdbaa
open Go
def flipL (l : List Nat) (k : Nat) : List Nat := l.set (k / 8) (nth l (k / 8) ^^^ 2 ^ (k % 8))
theorem flipL_byt {l : List Nat} (h : Byt l) (k : Nat) : Byt (flipL l k) :=
  byt_set h (Nat.xor_lt_two_pow (n := 8) (h.nth _) (Nat.pow_lt_pow_right (by omega) (by omega)))
theorem flipL_len (l : List Nat) (k : Nat) : (flipL l k).length = l.length := by simp [flipL]

end Go.Proofs.Ytdmhaigldckdbaa
