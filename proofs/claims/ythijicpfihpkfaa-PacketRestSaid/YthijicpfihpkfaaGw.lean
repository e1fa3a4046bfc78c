/- The walk of words.Get. -/
import Derived.Test.YthijicpfihpkfaaGi
import Derived.Test.YthijicpfihpkfaaWz
import Derived.RangeFuncNested
import Derived.Laws.BitsAllLaws
namespace Go.Proofs.Ythijicpfihpkfaa
open Go Go.RowKit Go.Shelf
attribute [local go_sem] Oper.semAt_some
def resT : Option (Nat × Nat) → Value
  | none => .tuple #[.int .u64 0, .int .i64 0, .bool false]
  | some (n, k) => .tuple #[.int .u64 (n : Int), .int .i64 (k : Int), .bool true]
theorem get_out (A : Option Addr) (n c : Nat) (at' : Int) (w : World) (h : at' < 0 ∨ (0 ≤ at' ∧ (n : Int) ≤ at')) (_hn : n ≤ 1000000) (_h1 : -9223372036854775808 ≤ at') (_h2 : at' ≤ 9223372036854775807) :
    Calls Try.prog 27 #[.slice A n c, .int .i64 at'] w fun e w' => e = .returned (resT none) ∧ w.grownBy w' none := by
  rcases h with h | ⟨h, h'⟩
  all_goals
    go_enter Try.func27, Try.ntmps27
    go_wp2
    exact bodyPost_ret (v := .tuple #[.int .u64 0, .int .i64 0, .bool false]) (by simp [results, Try.results27, go_sem]) rfl ⟨rfl, grown_trans (World.grownBy_alloc _ _ _) (grown_trans (World.grownBy_alloc _ _ _) (World.grownBy_alloc _ _ _))⟩
theorem get_none (ad : Addr) (n c k : Nat) (l : List Nat) (w : World) (hk : k < n) (hnc : n ≤ c) (_hc : c ≤ 9223372036854775807) (hn : n ≤ 1000000) (hl : l.length = n) (hr : Reads w w.heap.size (some ad) (l.map byte)) (hb : Byt l)
    (h : idxV (l.drop k) < 0 ∨ (0 ≤ idxV (l.drop k) ∧ 9 < idxV (l.drop k))) :
    Calls Try.prog 27 #[.slice (some ad) n c, .int .i64 k] w fun e w' => e = .returned (resT none) ∧ w.grownBy w' none := by
  have hr2 : Reads w w.heap.size (some (ad.add k)) ((l.drop k).map byte) := by
    have := hr.drop (k := k) rfl
    rwa [← List.map_drop] at this
  have C := Lib.hid (fun W c' (hg : w.grownBy W none) => idx_any (some (ad.add k)) (n - k) c' (l.drop k) W w.heap.size (by simp; omega) (hr2.grown0 hg) (fun x hx => hb x (List.mem_of_mem_drop hx)) (by omega))
  have hg3 := Lib.hid (grown_trans (World.grownBy_alloc w (.cells #[.int .u64 0] 27) none) (grown_trans (World.grownBy_alloc _ (.cells #[.int .i64 0] 3) none) (World.grownBy_alloc _ (.cells #[.bool false] 4) none)))
  generalize idxV (l.drop k) = r at *
  clear hr2 hr hb hl
  rcases h with h | ⟨h, h'⟩
  all_goals
    go_enter Try.func27, Try.ntmps27
    go_wp2_with fail
    refine (C.out _ _ hg3.out).mono ?_; rintro e w1 ⟨rfl, rfl⟩
    go_wp2
    exact bodyPost_ret (v := .tuple #[.int .u64 0, .int .i64 0, .bool false]) (by simp [results, Try.results27, go_sem]) rfl ⟨rfl, hg3.out⟩
/-- What the digits that have come, the last one first, come to. -/
def acc (s : List (Nat × Fin 256)) : Nat := s.foldl (fun n x => n * 128 + x.2.val % 128) 0
theorem acc_snoc (s : List (Nat × Fin 256)) (x : Nat × Fin 256) : acc (s ++ [x]) = acc s * 128 + x.2.val % 128 := by simp [acc]
theorem acc_bwd (s : List Nat) (hb : Byt s) : ∀ k, k ≤ s.length → acc (bwd s k) = valL (s.drop (s.length - k))
  | 0, _ => by simp [bwd, acc, valL]
  | k + 1, h => by
    rw [bwd_succ, acc_snoc, acc_bwd s hb k (by omega)]
    have h1 : s.length - k = s.length - 1 - k + 1 := by omega
    have h2 : s.length - (k + 1) = s.length - 1 - k := by omega
    have h3 : s.length - 1 - k < s.length := by omega
    rw [h2, h1, List.drop_eq_getElem_cons h3, valL_cons, ← nth_getElem h3]
    have := hb.nth (s.length - 1 - k)
    simp only [Nat.mod_eq_of_lt this]
    omega
theorem or_seven (a b : Nat) (hb : b < 128) : a * 128 ||| b = a * 128 + b := by
  have := Nat.two_pow_add_eq_or_of_lt (i := 7) hb a
  rw [Nat.mul_comm a 128]
  exact this.symm
theorem u64_seven (a b : Nat) (ha : a < 144115188075855872) (hb : b < 128) : bits .or .u64 ((a : Int) * 128) (b : Int) = (a : Int) * 128 + b := by
  have := u64_or_nat (a * 128) b (by omega) (by omega)
  rw [or_seven a b hb] at this
  simpa using this
end Go.Proofs.Ythijicpfihpkfaa
