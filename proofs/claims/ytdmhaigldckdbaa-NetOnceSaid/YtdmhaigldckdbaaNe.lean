/- Send, refused. -/
import Derived.Test.YtdmhaigldckdbaaNd
namespace Go.Proofs.Ytdmhaigldckdbaa
open Go Go.RowKit
set_option maxHeartbeats 1000000 in
theorem send_arg (w : World) (base g : Nat) (fl : List Flt) (to : Int) (v : Value) (h : NetIs w base g fl) (ht : to < -1 ∨ 5 < to) :
    Calls Try.prog 14 #[.pointer (some ⟨g, 0, none⟩), .agg #[.int .i64 to, v]] w fun e w' => e = .returned (.int .i64 2) ∧ w.grownBy w' none := by
  have hg0 := World.grownBy_alloc w (.cells #[.int .i64 to, v] 33) none
  have CN := Lib.hid (fun W (hg : w.grownBy W none) => none_net W base g fl (h.grown0 hg))
  clear h
  rcases ht with ht | ht
  · have hd0 : decide (to < -1) = true := by simp; omega
    clear ht
    go_enter Try.func14, Try.ntmps14
    go_wp2_with fail
    refine (CN.out _ hg0).mono ?_; rintro e w1 ⟨rfl, rfl⟩
    go_wp2
    go_ret
    exact ⟨rfl, hg0⟩
  · have hd0 : decide (to < -1) = false := by simp; omega
    have hd1 : decide (6 ≤ to) = true := by simp; omega
    clear ht
    go_enter Try.func14, Try.ntmps14
    go_wp2_with fail
    refine (CN.out _ hg0).mono ?_; rintro e w1 ⟨rfl, rfl⟩
    go_wp2
    go_ret
    exact ⟨rfl, hg0⟩
set_option maxHeartbeats 1000000 in
theorem send_long (w : World) (base g : Nat) (fl : List Flt) (to : Int) (A : Option Addr) (n c : Nat) (h : NetIs w base g fl) (ht : -1 ≤ to ∧ to ≤ 5) (hn : 128 < n) (_hn2 : n ≤ 1000000) :
    Calls Try.prog 14 #[.pointer (some ⟨g, 0, none⟩), .agg #[.int .i64 to, .slice A n c]] w fun e w' => e = .returned (.int .i64 3) ∧ w.grownBy w' none := by
  have hg0 := World.grownBy_alloc w (.cells #[.int .i64 to, .slice A n c] 33) none
  have CN := Lib.hid (fun W (hg : w.grownBy W none) => none_net W base g fl (h.grown0 hg))
  have hd0 : decide (to < -1) = false := by simp; omega
  have hd1 : decide (6 ≤ to) = false := by simp; omega
  have hd2 : decide ((128 : Int) < (n : Int)) = true := by simp; omega
  clear h
  go_enter Try.func14, Try.ntmps14
  go_wp2_with fail
  refine (CN.out _ hg0).mono ?_; rintro e w1 ⟨rfl, rfl⟩
  go_wp2
  go_ret
  exact ⟨rfl, hg0⟩
set_option maxHeartbeats 1000000 in
theorem send_full (w : World) (base g : Nat) (fl : List Flt) (to : Int) (A : Option Addr) (n c : Nat) (h : NetIs w base g fl) (ht : -1 ≤ to ∧ to ≤ 5) (hn : n ≤ 128) (hl : fl.length = 64) :
    Calls Try.prog 14 #[.pointer (some ⟨g, 0, none⟩), .agg #[.int .i64 to, .slice A n c]] w fun e w' => e = .returned (.int .i64 4) ∧ w.grownBy w' none := by
  have hg0 := World.grownBy_alloc w (.cells #[.int .i64 to, .slice A n c] 33) none
  have CN := Lib.hid (fun W (hg : w.grownBy W none) => none_net W base g fl (h.grown0 hg))
  have CF := Lib.hid (fun W (hg : w.grownBy W none) => full_net W base g fl (h.grown0 hg))
  have hd0 : decide (to < -1) = false := by simp; omega
  have hd1 : decide (6 ≤ to) = false := by simp; omega
  have hd2 : decide ((128 : Int) < (n : Int)) = false := by simp; omega
  have hdf : decide (fl.length = 64) = true := by simp [hl]
  rw [hdf] at CF
  clear h hdf hl
  go_enter Try.func14, Try.ntmps14
  go_wp2_with fail
  refine (CN.out _ hg0).mono ?_; rintro e w1 ⟨rfl, rfl⟩
  go_wp2_with fail
  refine (CF.out _ hg0).mono ?_; rintro e w1 ⟨rfl, rfl⟩
  go_wp2
  go_ret
  exact ⟨rfl, hg0⟩
/-- The address of a flight. -/
theorem at_any (w : World) (A : Option Addr) (n c k g : Nat) (hA : A = some ⟨g, 0, none⟩) (hk : k < n) (hn : n ≤ 1000000) :
    Calls Try.prog 31 #[.slice A n c, .int .i64 (k : Int)] w fun e w' => e = .returned (.pointer (some ⟨g, k * 2, none⟩)) ∧ w = w' := by
  subst hA
  go_enter Try.func31, Try.ntmps31
  go_wp2
  go_ret
  exact ⟨rfl, rfl⟩
/-- A flight's two cells in the row. -/
theorem rowF_get (fl : List Flt) (k : Nat) (f : Flt) (hk : fl[k]? = some f) : (rowF fl)[k * 2]? = some (.int .i64 f.to) ∧ (rowF fl)[k * 2 + 1]? = some (.slice f.A f.bs.length f.cap) := by
  induction fl generalizing k with
  | nil => simp at hk
  | cons x r ih =>
    have e : rowF (x :: r) = .int .i64 x.to :: .slice x.A x.bs.length x.cap :: rowF r := rfl
    rw [e]
    cases k with
    | zero =>
      simp only [List.getElem?_cons_zero, Option.some.injEq] at hk
      subst hk
      exact ⟨rfl, rfl⟩
    | succ j =>
      rw [List.getElem?_cons_succ] at hk
      obtain ⟨h1, h2⟩ := ih j hk
      refine ⟨?_, ?_⟩
      · rw [show (j + 1) * 2 = j * 2 + 1 + 1 by omega, List.getElem?_cons_succ, List.getElem?_cons_succ]; exact h1
      · rw [show (j + 1) * 2 + 1 = j * 2 + 1 + 1 + 1 by omega, List.getElem?_cons_succ, List.getElem?_cons_succ]; exact h2
end Go.Proofs.Ytdmhaigldckdbaa
