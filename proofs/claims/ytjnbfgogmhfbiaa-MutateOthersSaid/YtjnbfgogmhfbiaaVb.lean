/- The mutations: must, place: what holds goes on, what does not panics. -/
import Derived.WalkLawsBesides
import Derived.Test.YtjnbfgogmhfbiaaVa
import Derived.Test.YtjnbfgogmhfbiaaTk
import Derived.Test.YtjnbfgogmhfbiaaTm
namespace Go.Proofs.Ytjnbfgogmhfbiaa
open Go Go.RowKit
/-- The panic of a change that can't be done. -/
def wrongV (e : Int) : Value := .iface 51 (.agg #[.int .i64 e])
theorem must_yes (e : Int) (w : World) : Calls Try.prog 23 #[.bool true, .int .i64 e] w fun r w' => r = .returned (.tuple #[]) ∧ w' = w := by
  go_enter Try.func23, Try.ntmps23
  go_wp2
  go_end0
  exact ⟨rfl, rfl⟩
theorem must_no (e : Int) (w : World) : Calls Try.prog 23 #[.bool false, .int .i64 e] w fun r w' => r = .panicked [{ v := wrongV e, recovered := false }] ∧ w' = w := by
  go_enter Try.func23, Try.ntmps23
  go_wp2
  exact ⟨rfl, rfl, rfl⟩
theorem NodesAt.more {w : World} {B B' : Nat} {A : Option Addr} {n : Nat} {L : List (List Value)} (h : NodesAt w B A n L) (hB : B ≤ B') : NodesAt w B' A n L := ⟨h.ok, h.len, h.reads.more hB, h.few⟩
theorem NodesAt.grow {w w' : World} {A : Option Addr} {n : Nat} {L : List (List Value)} (h : NodesAt w w.heap.size A n L) (hg : w.grownBy w' none) : NodesAt w' w'.heap.size A n L := (h.grown0 hg).more hg.size
/-- place: where a key stands, else a panic. -/
def PlacePost (L : List (List Value)) (key : Int) (w : World) (r : Ending) (w' : World) : Prop :=
  (0 ≤ findI L key ∧ r = .returned (.int .i64 (findI L key)) ∨ findI L key < 0 ∧ r = .panicked [{ v := wrongV 70, recovered := false }]) ∧ w.grownBy w' none
theorem place_any (A : Option Addr) (n c : Nat) (L : List (List Value)) (x key : Int) (w : World) (hN : NodesAt w w.heap.size A n L) :
    Calls Try.prog 34 #[.agg #[.slice A n c, .int .i64 x], .int .i64 key] w (PlacePost L key w) := by
  have hg0 := World.grownBy_alloc w (.cells #[.slice A n c, .int .i64 x] 24) none
  have CF0 := find_any A n c L x key _ _ (hN.grow hg0)
  obtain ⟨at_, hat⟩ : ∃ a, findI L key = a := ⟨_, rfl⟩
  rw [hat] at CF0
  have CF := Lib.hid CF0
  have hat' := Lib.hid hat
  clear CF0 hat
  have hg0' := Lib.hid hg0
  clear hN hg0
  go_enter Try.func34, Try.ntmps34
  go_wp2_with fail
  refine CF.out.mono ?_; rintro e w1 ⟨rfl, hg1⟩
  have hgq := Lib.hid (grown_trans hg0'.out hg1)
  by_cases h : 0 ≤ at_
  · have d0 : decide (0 ≤ at_) = true := decide_eq_true h
    have hh := Lib.hid h
    clear h hg1
    go_wp2_with fail
    refine (must_yes 70 w1).mono ?_; rintro e w2 ⟨rfl, rfl⟩
    go_wp2_with fail
    go_ret
    exact ⟨.inl ⟨by rw [hat'.out]; exact hh.out, by rw [hat'.out]; rfl⟩, hgq.out⟩
  · have d0 : decide (0 ≤ at_) = false := decide_eq_false h
    have hh := Lib.hid h
    clear h hg1
    go_wp2_with fail
    refine (must_no 70 w1).mono ?_; rintro e w2 ⟨rfl, rfl⟩
    go_wp2_with fail
    exact ⟨rfl, .inr ⟨by rw [hat'.out]; have := hh.out; omega, rfl⟩, hgq.out⟩
end Go.Proofs.Ytjnbfgogmhfbiaa
