/- Which numbers are lengths: fixed.Fits of any numbers. -/
import Derived.Test.YtjaeoaebkkmaaaaMem
import Derived.Test.YtjaeoaebkkmaaaaRows
import Derived.BigQuiet
import Derived.Deep.QuietTactic
namespace Go.Proofs.Ytjaeoaebkkmaaaa
open Go Go.RowKit
def far (x : Int) : Bool := decide (x < -1099511627776) || decide (1099511627776 < x)
def num (x : Int) : Value := .int .i64 x
theorem far_true {x : Int} : far x = true ↔ (x < -1099511627776 ∨ 1099511627776 < x) := by simp [far]
theorem far_false {x : Int} : far x = false ↔ (-1099511627776 ≤ x ∧ x ≤ 1099511627776) := by simp [far]

theorem fit1 (x : Int) (w : World) (_h1 : -9223372036854775808 ≤ x) (_h2 : x ≤ 9223372036854775807) :
    Calls Try.prog 34 #[.int .i64 x] w fun e w' => e = .returned (.bool (far x)) ∧ w = w' := by
  by_cases h : x < -1099511627776
  · have hf : far x = true := far_true.2 (.inl h)
    have hf' := Lib.hid hf; clear hf
    go_enter Try.func34, Try.ntmps34
    go_wp2
    go_ret
    exact ⟨by rw [hf'.out]; rfl, rfl⟩
  · have hf' := Lib.hid (show far x = decide (1099511627776 < x) by simp [far, h])
    go_enter Try.func34, Try.ntmps34
    go_wp2
    go_ret
    exact ⟨by rw [hf'.out]; rfl, rfl⟩

theorem far_any (A : Option Addr) (n c : Nat) (xs : List Int) (w : World) (B : Nat) (hl : xs.length = n) (hr : Reads w B A (xs.map num)) (hb : ∀ x ∈ xs, -9223372036854775808 ≤ x ∧ x ≤ 9223372036854775807) (hn : n ≤ 1000000) :
    Calls Try.prog 47 #[.slice A n c, .func (.func 34) #[] #[]] w fun e w' => ∃ r : Int, e = .returned (.int .i64 r) ∧ -1 ≤ r ∧ r ≤ 1000000 ∧ (decide (0 ≤ r) = xs.any far) ∧ w = w' := by

  go_enter Try.func47, Try.ntmps47
  go_wp2
  go_loopw [5, 8] (fun _ v wr => ∃ k : Nat, k ≤ n ∧ v = .int .i64 k ∧ (∀ j, j < k → ∀ x, xs[j]? = some x → far x = false) ∧ w = wr) (fun _ v _ => n - (intOf v).toNat)
  case atStart => exact ⟨0, Nat.zero_le _, rfl, fun j hj => absurd hj (by omega), rfl⟩
  case round =>
    obtain ⟨k, hk, rfl, heq, rfl⟩ := hrel
    have heq' := Lib.hid heq; clear heq
    by_cases hlt : k < n
    · obtain ⟨ad, rfl, _, hc⟩ := hr.at_ (k := k) (by simp; omega)
      have hx := hb xs[k] (List.getElem_mem _)
      have hk' := Lib.hid (show xs[k]? = some xs[k] from List.getElem?_eq_getElem (by omega))
      rw [List.getElem_map] at hc
      have hm := Lib.hid (show xs[k] ∈ xs from List.getElem_mem _)
      generalize xs[k] = x at *
      unfold num at hc
      have C := Lib.hid (fun W => fit1 x W hx.1 hx.2)
      have hb' := Lib.hid hb; clear hb
      cases hq : far x with
      | true =>
        rw [hq] at C
        have hq' := Lib.hid hq; clear hq
        go_wp2_with (go_at_call 34; refine (C.out _).mono ?_; rintro e w' ⟨rfl, rfl⟩)
        go_ret
        refine ⟨k, rfl, by omega, by omega, ?_, rfl⟩
        rw [List.any_eq_true.2 ⟨x, hm.out, hq'.out⟩]
        simp
      | false =>
        rw [hq] at C
        have hq' := Lib.hid hq; clear hq
        go_wp2_with (go_at_call 34; refine (C.out _).mono ?_; rintro e w' ⟨rfl, rfl⟩)
        go_roundw
        case rel => exact ⟨k + 1, by omega, by go_num, fun j hj x' hx' => by
            rcases Nat.lt_or_ge j k with h | h
            · exact heq'.out j h x' hx'
            · obtain rfl : j = k := by omega
              rw [hk'.out] at hx'
              cases hx'
              exact hq'.out, trivial⟩
        case measure => simp [intOf]; omega
    · go_wp2
      go_ret
      obtain rfl : k = n := by omega
      refine ⟨-1, rfl, by omega, by omega, ?_, rfl⟩
      have : xs.any far = false := List.any_eq_false.2 fun x hx => by
        obtain ⟨j, hj, rfl⟩ := List.getElem_of_mem hx
        rw [heq'.out j (by omega) _ (List.getElem?_eq_getElem hj)]
        simp
      rw [this]
      rfl

theorem hasfar_any (A : Option Addr) (n c : Nat) (xs : List Int) (w : World) (B : Nat) (hl : xs.length = n) (hr : Reads w B A (xs.map num)) (hb : ∀ x ∈ xs, -9223372036854775808 ≤ x ∧ x ≤ 9223372036854775807) (hn : n ≤ 1000000) :
    Calls Try.prog 33 #[.slice A n c, .func (.func 34) #[] #[]] w fun e w' => e = .returned (.bool (xs.any far)) ∧ w = w' := by
  have C := Lib.hid (far_any A n c xs w B hl hr hb hn)
  clear hb hr hl
  go_enter Try.func33, Try.ntmps33
  go_wp2_with fail
  refine C.out.mono ?_; rintro e w1 ⟨r, rfl, hr1, hr2, hd, rfl⟩
  have hd' := Lib.hid hd; clear hd
  go_wp2
  go_ret
  exact ⟨by rw [← hd'.out]; rfl, rfl⟩

theorem fits_any (A : Option Addr) (n c : Nat) (xs : List Int) (w : World) (B : Nat) (hl : xs.length = n) (hr : Reads w B A (xs.map num)) (hb : ∀ x ∈ xs, -9223372036854775808 ≤ x ∧ x ≤ 9223372036854775807) (hn : n ≤ 1000000) :
    Calls Try.prog 19 #[.slice A n c] w fun e w' => e = .returned (.bool !(xs.any far)) ∧ w = w' := by
  have C := Lib.hid (hasfar_any A n c xs w B hl hr hb hn)
  clear hb hr hl
  go_enter Try.func19, Try.ntmps19
  go_wp2_with fail
  refine C.out.mono ?_; rintro e w1 ⟨rfl, rfl⟩
  go_wp2
  go_ret
  exact ⟨rfl, rfl⟩
end Go.Proofs.Ytjaeoaebkkmaaaa
