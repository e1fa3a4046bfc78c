/- The law's own examples: awake. -/
import Derived.Test.YtjnbfgogmhfbiaaWa
namespace Go.Proofs.Ytjnbfgogmhfbiaa
open Go Go.RowKit
def txtNode : List Value := (zeroNode.set 2 (.int .u8 1)).set 50 (.string ⟨#[97]⟩)
def badNode : List Value := zeroNode.set 3 (.int .u8 3)
theorem txt_ok : OkAll nodeLs txtNode := okB_ok _ _ (by decide +kernel)
theorem bad_ok : OkAll nodeLs badNode := okB_ok _ _ (by decide +kernel)
theorem chg_ok {kd key par num : Int} {y : List Value} (hy : OkAll nodeLs y) (h : (decide (0 ≤ kd) && decide (kd ≤ 255) && decide (0 ≤ key) && decide (key ≤ 255) && decide (0 ≤ par) && decide (par ≤ 255) && decide (0 ≤ num) && decide (num ≤ 255)) = true) : (⟨kd, key, par, num, y⟩ : Chg).ok := by
  simp only [Bool.and_eq_true, decide_eq_true_eq] at h
  exact ⟨by show 0 ≤ kd ∧ kd ≤ 255; omega, by show -9223372036854775808 ≤ key ∧ key ≤ 9223372036854775807; omega, by show -9223372036854775808 ≤ par ∧ par ≤ 9223372036854775807; omega, by show -9223372036854775808 ≤ num ∧ num ≤ 9223372036854775807; omega, hy⟩
theorem four_len : ∀ i, i < 4 → lenN (nd fourL i) ≤ 5000 := by decide +kernel
def ch1 : Chg := ⟨1, 0, 1, 1, zeroNode⟩
theorem ch1_ok : ch1.ok := chg_ok zero_ok (by decide)
def doc1 : List (List Value) := putAt fourL 3 [boxOf 5 1 zeroNode]
theorem ap1 : Applies fourL 5 ch1 (.ok (doc1, 6)) := ⟨four_may, by decide, by rfl, mayLB_spec (by decide +kernel)⟩
theorem told1 : toldB doc1 [1, 0, 2, 1, 3, 2, 5, 1, 4, 1] = true := by decide +kernel
def ch2 : Chg := ⟨1, 0, 4, 0, txtNode⟩
theorem ch2_ok : ch2.ok := chg_ok txt_ok (by decide)
def doc2 : List (List Value) := putAt fourL 4 [textOf 5 2 txtNode]
theorem ap2 : Applies fourL 5 ch2 (.ok (doc2, 6)) := ⟨four_may, by decide, by rfl, mayLB_spec (by decide +kernel)⟩
theorem told2 : toldB doc2 [1, 0, 2, 1, 3, 2, 4, 1, 5, 2] = true := by decide +kernel
def ch3 : Chg := ⟨1, 0, 3, 1, zeroNode⟩
theorem ch3_ok : ch3.ok := chg_ok zero_ok (by decide)
theorem ap3 : Applies fourL 5 ch3 (.error 70) := .inr (.inr (.inl ⟨four_may, by decide, by rfl⟩))
def ch4 : Chg := ⟨2, 2, 0, 0, zeroNode⟩
theorem ch4_ok : ch4.ok := chg_ok zero_ok (by decide)
def doc4 : List (List Value) := [mkN 1 0, mkN 4 1]
theorem ap4 : Applies fourL 5 ch4 (.ok (doc4, 5)) := ⟨four_may, by decide, by rfl, mayLB_spec (by decide +kernel)⟩
theorem told4 : toldB doc4 [1, 0, 4, 1] = true := by decide +kernel
def ch5 : Chg := ⟨2, 1, 0, 0, zeroNode⟩
theorem ch5_ok : ch5.ok := chg_ok zero_ok (by decide)
theorem ap5 : Applies fourL 5 ch5 (.error 70) := .inr (.inr (.inl ⟨four_may, by decide, by rfl⟩))
def ch6 : Chg := ⟨3, 2, 4, 0, zeroNode⟩
theorem ch6_ok : ch6.ok := chg_ok zero_ok (by decide)
def doc6 : List (List Value) := [mkN 1 0, mkN 4 1, mkN 2 2, mkN 3 3]
theorem ap6 : Applies fourL 5 ch6 (.ok (doc6, 5)) := ⟨four_may, by decide, by rfl, mayLB_spec (by decide +kernel)⟩
theorem told6 : toldB doc6 [1, 0, 4, 1, 2, 2, 3, 3] = true := by decide +kernel
def ch7 : Chg := ⟨3, 2, 3, 0, zeroNode⟩
theorem ch7_ok : ch7.ok := chg_ok zero_ok (by decide)
theorem ap7 : Applies fourL 5 ch7 (.error 70) := .inr (.inr (.inl ⟨four_may, by decide, by rfl⟩))
def ch8 : Chg := ⟨3, 2, 1, 1, zeroNode⟩
theorem ch8_ok : ch8.ok := chg_ok zero_ok (by decide)
def doc8 : List (List Value) := [mkN 1 0, mkN 4 1, mkN 2 1, mkN 3 2]
theorem ap8 : Applies fourL 5 ch8 (.ok (doc8, 5)) := ⟨four_may, by decide, by rfl, mayLB_spec (by decide +kernel)⟩
theorem told8 : toldB doc8 [1, 0, 4, 1, 2, 1, 3, 2] = true := by decide +kernel
def ch9 : Chg := ⟨5, 4, 0, 0, zeroNode⟩
theorem ch9_ok : ch9.ok := chg_ok zero_ok (by decide)
theorem ap9 : Applies fourL 5 ch9 (.error 70) := .inr (.inr (.inl ⟨four_may, by decide, by rfl⟩))
def ch10 : Chg := ⟨4, 4, 0, 0, badNode⟩
theorem ch10_ok : ch10.ok := chg_ok bad_ok (by decide)
theorem ap10 : Applies fourL 5 ch10 (.error 60) := .inr (.inr (.inl ⟨four_may, by decide, by rfl⟩))
end Go.Proofs.Ytjnbfgogmhfbiaa
