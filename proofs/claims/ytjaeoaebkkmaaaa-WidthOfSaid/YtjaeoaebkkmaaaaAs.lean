/- The walks of width.asked, Clamp, Fit, All. -/
import Derived.Test.YtjaeoaebkkmaaaaRes
namespace Go.Proofs.Ytjaeoaebkkmaaaa
open Go Go.RowKit
structure Ask where
  is : Bool
  wd : Int
  least : Int
  most : Int
  left : Int
  right : Int
  al : Bool
  ar : Bool
  edges : Int
def Ask.cells (a : Ask) : List Value := [.bool a.is, .int .i64 a.wd, .int .i64 a.least, .int .i64 a.most, .int .i64 a.left, .int .i64 a.right, .bool a.al, .bool a.ar, .int .i64 a.edges]
def Ask.nums (a : Ask) : List Int := [a.wd, a.least, a.most, a.left, a.right, a.edges]
def I64 (n : Int) : Prop := -9223372036854775808 ≤ n ∧ n ≤ 9223372036854775807

/-- The document's All. -/
theorem rall_any (A : Option Addr) (n c : Nat) (xs : List Int) (w : World) (B : Nat) (hl : xs.length = n) (hr : Reads w B A (xs.map num)) (hb : ∀ x ∈ xs, -9223372036854775808 ≤ x ∧ x ≤ 9223372036854775807) (hn : n ≤ 1000000) :
    Calls Try.prog 20 #[.slice A n c] w fun e w' => e = .returned (.bool !(xs.any far)) ∧ w = w' := by
  go_enter Try.func20, Try.ntmps20
  go_wp2
  go_loopw [3] (fun v wr => ∃ k : Nat, k ≤ n ∧ v = .int .i64 k ∧ (∀ j, j < k → ∀ x, xs[j]? = some x → far x = false) ∧ w = wr) (fun v _ => n - (intOf v).toNat)
  case atStart => exact ⟨0, Nat.zero_le _, rfl, fun j hj => absurd hj (by omega), rfl⟩
  case round =>
    obtain ⟨k, hk, rfl, heq, rfl⟩ := hrel
    have heq' := Lib.hid heq; clear heq
    by_cases hlt : k < n
    · obtain ⟨ad, rfl, _, hc⟩ := hr.at_ (k := k) (by simp; omega)
      have hx := hb xs[k] (List.getElem_mem _)
      have hk' := Lib.hid (show xs[k]? = some xs[k] from List.getElem?_eq_getElem (by omega))
      rw [List.getElem_map] at hc
      have hm := Lib.hid (show xs[k] ∈ xs from List.getElem_mem _)
      generalize xs[k] = x at *
      unfold num at hc
      have C := Lib.hid (fun W => rfits x W hx.1 hx.2)
      have hb' := Lib.hid hb; clear hb
      cases hq : far x with
      | true =>
        rw [hq] at C
        have hq' := Lib.hid hq; clear hq
        go_wp2_with fail
        refine (C.out _).mono ?_; rintro e w' ⟨rfl, rfl⟩
        go_wp2
        go_ret
        refine ⟨?_, rfl⟩
        rw [List.any_eq_true.2 ⟨x, hm.out, hq'.out⟩]
        rfl
      | false =>
        rw [hq] at C
        have hq' := Lib.hid hq; clear hq
        go_wp2_with fail
        refine (C.out _).mono ?_; rintro e w' ⟨rfl, rfl⟩
        go_wp2
        go_roundw
        case rel => exact ⟨k + 1, by omega, by go_num, fun j hj x' hx' => by
            rcases Nat.lt_or_ge j k with h | h
            · exact heq'.out j h x' hx'
            · obtain rfl : j = k := by omega
              rw [hk'.out] at hx'
              cases hx'
              exact hq'.out, trivial⟩
        case measure => simp [intOf]; omega
    · go_wp2
      go_ret
      obtain rfl : k = n := by omega
      refine ⟨?_, rfl⟩
      have : xs.any far = false := List.any_eq_false.2 fun x hx => by
        obtain ⟨j, hj, rfl⟩ := List.getElem_of_mem hx
        rw [heq'.out j (by omega) _ (List.getElem?_eq_getElem hj)]
        simp
      rw [this]
      rfl

theorem clamp_any (n least most : Int) (w : World) : Calls Try.prog 18 #[.int .i64 n, .int .i64 least, .int .i64 most] w fun e w' => e = .returned (.int .i64 (max least (min most n))) ∧ w = w' := by
  go_enter Try.func18, Try.ntmps18
  go_wp2
  all_goals
    go_ret
    refine ⟨ret_int ?_, rfl⟩
    (repeat' split at *) <;> omega
theorem fit_any (n least most : Int) (w : World) : Calls Try.prog 12 #[.int .i64 n, .int .i64 least, .int .i64 most] w fun e w' => e = .returned (.int .i64 (min (max n most) least)) ∧ w = w' := by
  go_enter Try.func12, Try.ntmps12
  go_wp2
  all_goals
    go_ret
    refine ⟨ret_int ?_, rfl⟩
    (repeat' split at *) <;> omega
theorem rclamp_any (n least most : Int) (w : World) (hn : I64 n) (hl : I64 least) (hm : I64 most) : Calls Try.prog 21 #[.int .i64 n, .int .i64 least, .int .i64 most] w fun e w' => e = .returned (.int .i64 (max least (min most n))) ∧ w = w' := by
  unfold I64 at *
  by_cases h1 : most < n
  · by_cases h2 : most < least
    · have hv := Lib.hid (show max least (min most n) = least by omega)
      go_enter Try.func21, Try.ntmps21
      go_wp2
      go_ret
      exact ⟨by rw [hv.out]; rfl, rfl⟩
    · have hv := Lib.hid (show max least (min most n) = most by omega)
      go_enter Try.func21, Try.ntmps21
      go_wp2
      go_ret
      exact ⟨by rw [hv.out]; rfl, rfl⟩
  · by_cases h2 : n < least
    · have hv := Lib.hid (show max least (min most n) = least by omega)
      go_enter Try.func21, Try.ntmps21
      go_wp2
      go_ret
      exact ⟨by rw [hv.out]; rfl, rfl⟩
    · have hv := Lib.hid (show max least (min most n) = n by omega)
      go_enter Try.func21, Try.ntmps21
      go_wp2
      go_ret
      exact ⟨by rw [hv.out]; rfl, rfl⟩
end Go.Proofs.Ytjaeoaebkkmaaaa
