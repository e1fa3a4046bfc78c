/- What the equation comes to, in plain words. -/
import Derived.Test.YtjaeoaebkkmaaaaAs2
namespace Go.Proofs.Ytjaeoaebkkmaaaa
open Go Go.RowKit
structure Four where
  x : Int
  y : Int
  z : Int
  e : Int
def Four.val (g : Four) : Value := .tuple #[.int .i64 g.x, .int .i64 g.y, .int .i64 g.z, .int .i64 g.e]
def lef (a : Ask) : Int := if a.al = true then 0 else a.left
def rig (a : Ask) : Int := if a.ar = true then 0 else a.right
def asks (of : Int) (a : Ask) : Int := if a.is = true then a.wd else max 0 (of - lef a - rig a - a.edges)
def widt (of : Int) (a : Ask) : Int := max a.least (min a.most (asks of a))
def free (of : Int) (a : Ask) : Int := of - lef a - a.edges - widt of a - rig a
def lef2 (of : Int) (a : Ask) : Int :=
  if 0 ≤ free of a ∧ a.al = true ∧ a.ar = true then free of a / 2 else if free of a < 0 ∨ a.al = false then lef a else free of a
def rig2 (of : Int) (a : Ask) : Int :=
  if 0 ≤ free of a ∧ a.al = true ∧ a.ar = true then free of a - free of a / 2 else if free of a < 0 ∨ a.al = false then rig a + free of a else rig a
def solveV (of : Int) (a : Ask) : Four :=
  if askedV of a = 0 then (if [lef2 of a, widt of a, rig2 of a].any far = true then ⟨0, 0, 0, 10⟩ else ⟨lef2 of a, widt of a, rig2 of a, 0⟩) else ⟨0, 0, 0, askedV of a⟩

theorem asked_zero {of : Int} {a : Ask} (h : askedV of a = 0) : (0 ≤ of ∧ of ≤ 1099511627776) ∧ (0 ≤ a.least ∧ a.least ≤ 1099511627776) ∧ (0 ≤ a.most ∧ a.most ≤ 1099511627776) ∧
    (-1099511627776 ≤ a.left ∧ a.left ≤ 1099511627776) ∧ (-1099511627776 ≤ a.right ∧ a.right ≤ 1099511627776) ∧ (0 ≤ a.edges ∧ a.edges ≤ 1099511627776) ∧ (a.is = true → 0 ≤ a.wd ∧ a.wd ≤ 1099511627776) := by
  unfold askedV at h
  split at h
  · omega
  · rename_i h1
    split at h
    · omega
    · rename_i h2
      have h3 : ∀ x ∈ six of a, far x = false := fun x hx => by
        cases hf : far x with
        | false => rfl
        | true => exact absurd (.inl (List.any_eq_true.2 ⟨x, hx, hf⟩)) h2
      have f1 := far_false.1 (h3 of (by simp [six]))
      have f2 := far_false.1 (h3 a.least (by simp [six]))
      have f3 := far_false.1 (h3 a.most (by simp [six]))
      have f4 := far_false.1 (h3 a.left (by simp [six]))
      have f5 := far_false.1 (h3 a.right (by simp [six]))
      have f6 := far_false.1 (h3 a.edges (by simp [six]))
      refine ⟨by omega, by omega, by omega, by omega, by omega, by omega, fun hi => ?_⟩
      have f7 : far a.wd = false := by
        cases hf : far a.wd with
        | false => rfl
        | true => exact absurd (.inr ⟨hi, hf⟩) h2
      have f8 := far_false.1 f7
      have : ¬ a.wd < 0 := fun h => h1 (.inr (.inr (.inr (.inr ⟨hi, h⟩))))
      omega
theorem asked_cases (of : Int) (a : Ask) : askedV of a = 0 ∨ askedV of a = 2 ∨ askedV of a = 10 := by
  unfold askedV; repeat' split
  all_goals omega
theorem solve_bad {of : Int} {a : Ask} (h : askedV of a ≠ 0) : solveV of a = ⟨0, 0, 0, askedV of a⟩ := by unfold solveV; rw [if_neg h]
theorem end_ok {of : Int} {a : Ask} (h0 : askedV of a = 0) {x y z : Int} (hf : [x, y, z].any far = false) (hx : x = lef2 of a) (hy : y = widt of a) (hz : z = rig2 of a) :
    Ending.returned (.tuple #[.int .i64 x, .int .i64 y, .int .i64 z, .int .i64 0]) = .returned (solveV of a).val := by
  subst hx hy hz
  unfold solveV
  rw [if_pos h0, if_neg (by rw [hf]; simp)]
  rfl
theorem end_far {of : Int} {a : Ask} (h0 : askedV of a = 0) {x y z : Int} (hf : [x, y, z].any far = true) (hx : x = lef2 of a) (hy : y = widt of a) (hz : z = rig2 of a) :
    Ending.returned (.tuple #[.int .i64 0, .int .i64 0, .int .i64 0, .int .i64 10]) = .returned (solveV of a).val := by
  subst hx hy hz
  unfold solveV
  rw [if_pos h0, if_pos hf]
  rfl
theorem results_tmp4 {fn : Func} {t u v x : Tmp} (h : fn.results = #[.tmp t, .tmp u, .tmp v, .tmp x]) (tmps : Array Value) (P : Program) (w : World) :
    (results fn tmps).run P w = .ok (.tuple #[tmps.getD t undef, tmps.getD u undef, tmps.getD v undef, tmps.getD x undef]) w := by
  simp [results, h]
/-- fixed.Clamp, with its answer named. -/
theorem clampW (n least most : Int) (w : World) : Calls Try.prog 18 #[.int .i64 n, .int .i64 least, .int .i64 most] w fun e w' => ∃ r, e = .returned (.int .i64 r) ∧ r = max least (min most n) ∧ w = w' :=
  (clamp_any n least most w).mono fun _ _ ⟨h1, h2⟩ => ⟨_, h1, rfl, h2⟩
theorem rclampW (n least most : Int) (w : World) (hn : I64 n) (hl : I64 least) (hm : I64 most) : Calls Try.prog 21 #[.int .i64 n, .int .i64 least, .int .i64 most] w fun e w' => ∃ r, e = .returned (.int .i64 r) ∧ r = max least (min most n) ∧ w = w' :=
  (rclamp_any n least most w hn hl hm).mono fun _ _ ⟨h1, h2⟩ => ⟨_, h1, rfl, h2⟩
end Go.Proofs.Ytjaeoaebkkmaaaa
