/- The walks of the laws' own helpers: flip, same, awake. -/
import Derived.Test.YtodpciiedebifaaT5
import Derived.Test.YtodpciiedebifaaT2
import Derived.Test.YtodpciiedebifaaFl
namespace Go.Proofs.Ytodpciiedebifaa
open Go Go.RowKit
theorem made8 (n : Nat) : (madeCells (Value.int .u8 0).cells (n * 1)).toList = (List.replicate n 0).map byte := by
  rw [Nat.mul_one, show (Value.int .u8 0).cells = #[Value.int .u8 0] from rfl, toList_madeCells_one, List.map_replicate]
  rfl
/-- Which bit of bytes a number means. -/
def place (n : Nat) (i : Int) : Nat := (i % 18446744073709551616).toNat % (8 * n)
theorem flip_any (A : Option Addr) (n c : Nat) (i : Int) (l : List Nat) (w : World) (base : Nat) (hl : l.length = n) (hown : Own w base 5 1 A n c (l.map byte)) (hb : Byt l) (hn0 : 0 < n) (hn : n ≤ 1000000) (_hi : -9223372036854775808 ≤ i) (_hi2 : i ≤ 9223372036854775807) :
    Calls Try.prog 23 #[.slice A n c, .int .i64 i] w fun e w' => e = .returned (.tuple #[]) ∧ Own w' base 5 1 A n c ((flipL l (place n i)).map byte) ∧ w.grownBy w' (rowOf A c) := by
  have hp : place n i < 8 * n := Nat.mod_lt _ (by omega)
  have hpe : (IntKind.u64.wrap i).tmod (8 * (n : Int)) = ((place n i : Nat) : Int) := by
    rw [IntKind.wrap_u64, Int.tmod_eq_emod_of_nonneg (by omega)]
    unfold place
    rw [Int.natCast_emod, Int.toNat_of_nonneg (by omega)]
    simp
  generalize place n i = k at *
  obtain ⟨g, rfl, hg0, hg1, hc, hf⟩ := hown.byte_at (k := k / 8) (by omega)
  have hx := hb.nth (k / 8)
  have hpw : 2 ^ (k % 8) < 2 ^ 8 := Nat.pow_lt_pow_right (by omega) (by omega)
  have e2 : ((2 : Int) ^ (k % 8) % 256) = ((2 ^ (k % 8) : Nat) : Int) := by
    rw [show (2 : Int) ^ (k % 8) = ((2 ^ (k % 8) : Nat) : Int) from (Int.natCast_pow 2 _).symm]
    generalize 2 ^ (k % 8) = z at *
    omega
  have hro : rowOf (some (⟨g, 0, none⟩ : Addr)) c = some g := by
    have := hown.2.1
    simp [rowOf]; omega
  rw [hro]
  clear hro
  have hfl := Lib.hid (show flipL l k = l.set (k / 8) (nth l (k / 8) ^^^ 2 ^ (k % 8)) from rfl)
  have e1 : bits .xor .u8 (nth l (k / 8) : Int) ((2 : Int) ^ (k % 8) % 256) = ((nth l (k / 8) ^^^ 2 ^ (k % 8) : Nat) : Int) := by
    rw [e2]
    exact u8_xor_nat _ _ hx hpw
  clear e2
  go_enter Try.func23, Try.ntmps23
  go_wp2
  go_end0
  exact ⟨rfl, by rw [hfl.out]; exact hown.put_ _ _, grownBy_setCell _ _ _ _⟩

theorem lawsame_any (A1 A2 : Option Addr) (n1 c1 n2 c2 : Nat) (l1 l2 : List Nat) (w : World) (B1 B2 : Nat) (h1 : l1.length = n1) (h2 : l2.length = n2) (r1 : Reads w B1 A1 (l1.map byte)) (r2 : Reads w B2 A2 (l2.map byte))
    (b1 : Byt l1) (b2 : Byt l2) (hn : n1 ≤ 1000000) (hn2 : n2 ≤ 1000000) (hnn : n1 = n2) :
    Calls Try.prog 22 #[.slice A1 n1 c1, .slice A2 n2 c2] w fun e w' => e = .returned (.bool (l1 == l2)) ∧ Drew w w' := by
  subst hnn
  have C := Lib.hid (differ_q A1 A2 n1 c1 n1 c2 l1 l2 w B1 B2 h1 h2 r1 r2 b1 b2 hn hn2)
  have hz := differ_zero l1 l2 b1 b2 (by omega)
  by_cases he : l1 = l2
  · have hq : (l1 == l2) = true := by simp [he]
    rw [hq]
    rw [hz.2 he] at C
    clear hq hz he
    go_enter Try.func22, Try.ntmps22
    go_wp2_with fail
    refine C.out.mono ?_; rintro e w1 ⟨rfl, hg1⟩
    go_wp2
    go_ret
    exact ⟨rfl, hg1⟩
  · have hq : (l1 == l2) = false := by simp [he]
    rw [hq]
    have hne : ¬ differ l1 l2 = 0 := fun h => he (hz.1 h)
    clear hq hz he
    generalize differ l1 l2 = d at *
    have hb : ((d : Int) == 0) = false := by simp; omega
    go_enter Try.func22, Try.ntmps22
    go_wp2_with fail
    refine C.out.mono ?_; rintro e w1 ⟨rfl, hg1⟩
    go_wp2
    go_ret
    exact ⟨rfl, hg1⟩

end Go.Proofs.Ytodpciiedebifaa
