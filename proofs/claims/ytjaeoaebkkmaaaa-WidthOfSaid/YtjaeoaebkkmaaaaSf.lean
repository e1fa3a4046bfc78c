/- The document's May (printed by gen_ref.py). -/
import Derived.Test.YtjaeoaebkkmaaaaSe
import Derived.Deep.CutRange
namespace Go.Proofs.Ytjaeoaebkkmaaaa
open Go Go.RowKit
set_option linter.unusedSimpArgs false
theorem natural_any (n most : Int) (w : World) (_h1 : -9223372036854775808 ≤ n) (_h2 : n ≤ 9223372036854775807) :
    Calls Try.prog 42 #[.int .i64 n, .int .i64 most] w fun e w' => e = .returned (.bool (amongB n 0 most)) ∧ w = w' := by
  by_cases h1 : 0 ≤ n
  · have hv := Lib.hid (show amongB n 0 most = decide (n ≤ most) by simp [amongB, h1])
    go_enter Try.func42, Try.ntmps42
    go_wp2
    go_ret
    exact ⟨by rw [hv.out]; rfl, rfl⟩
  · have hv := Lib.hid (show amongB n 0 most = false by simp [amongB, h1])
    go_enter Try.func42, Try.ntmps42
    go_wp2
    go_ret
    exact ⟨by rw [hv.out]; rfl, rfl⟩
theorem within_far (n : Int) (w : World) (_h1 : -9223372036854775808 ≤ n) (_h2 : n ≤ 9223372036854775807) :
    Calls Try.prog 43 #[.int .i64 n, .int .i64 274877906944] w fun e w' => e = .returned (.bool (amongB n (-274877906944) 274877906944)) ∧ w = w' := by
  by_cases h1 : -274877906944 ≤ n
  · have hv := Lib.hid (show amongB n (-274877906944) 274877906944 = decide (n ≤ 274877906944) by simp [amongB, h1])
    go_enter Try.func43, Try.ntmps43
    go_wp2
    go_ret
    exact ⟨by rw [hv.out]; rfl, rfl⟩
  · have hv := Lib.hid (show amongB n (-274877906944) 274877906944 = false by simp [amongB, h1])
    go_enter Try.func43, Try.ntmps43
    go_wp2
    go_ret
    exact ⟨by rw [hv.out]; rfl, rfl⟩
theorem within_near (n : Int) (w : World) (_h1 : -9223372036854775808 ≤ n) (_h2 : n ≤ 9223372036854775807) :
    Calls Try.prog 43 #[.int .i64 n, .int .i64 1000] w fun e w' => e = .returned (.bool (amongB n (-1000) 1000)) ∧ w = w' := by
  by_cases h1 : -1000 ≤ n
  · have hv := Lib.hid (show amongB n (-1000) 1000 = decide (n ≤ 1000) by simp [amongB, h1])
    go_enter Try.func43, Try.ntmps43
    go_wp2
    go_ret
    exact ⟨by rw [hv.out]; rfl, rfl⟩
  · have hv := Lib.hid (show amongB n (-1000) 1000 = false by simp [amongB, h1])
    go_enter Try.func43, Try.ntmps43
    go_wp2
    go_ret
    exact ⟨by rw [hv.out]; rfl, rfl⟩
set_option maxHeartbeats 400000 in
theorem rlength_any (k n : Int) (w : World) (_k1 : 0 ≤ k) (_k2 : k ≤ 255) (_h1 : -9223372036854775808 ≤ n) (_h2 : n ≤ 9223372036854775807) :
    Calls Try.prog 41 #[.agg #[.int .u8 k, .int .i64 n]] w fun e w' => e = .returned (.bool (lengthB k n 0)) ∧ w.grownBy w' none := by
  by_cases e0 : k = 0
  · subst e0
    have hv := Lib.hid (show lengthB 0 n 0 = decide (n = 0) from rfl)
    go_enter Try.func41, Try.ntmps41
    go_wp2
    go_ret
    exact ⟨by rw [hv.out]; rfl, World.grownBy_alloc _ _ _⟩
  have b0 : (k == 0) = false := by simp [e0]
  by_cases e1 : k = 1
  · subst e1
    clear b0
    by_cases h1 : 0 ≤ n
    · have hv := Lib.hid (show lengthB 1 n 0 = decide (n ≤ 274877906944) by simp [lengthB, amongB, h1])
      go_enter Try.func41, Try.ntmps41
      go_wp2
      go_ret
      exact ⟨by rw [hv.out]; rfl, World.grownBy_alloc _ _ _⟩
    · have hv := Lib.hid (show lengthB 1 n 0 = false by simp [lengthB, amongB, h1])
      go_enter Try.func41, Try.ntmps41
      go_wp2
      go_ret
      exact ⟨by rw [hv.out]; rfl, World.grownBy_alloc _ _ _⟩
  have b1 : (k == 1) = false := by simp [e1]
  by_cases e2 : k = 2
  · subst e2
    clear b0 b1
    by_cases h1 : 0 ≤ n
    · have hv := Lib.hid (show lengthB 2 n 0 = decide (n ≤ 100000) by simp [lengthB, amongB, h1])
      go_enter Try.func41, Try.ntmps41
      go_wp2
      go_ret
      exact ⟨by rw [hv.out]; rfl, World.grownBy_alloc _ _ _⟩
    · have hv := Lib.hid (show lengthB 2 n 0 = false by simp [lengthB, amongB, h1])
      go_enter Try.func41, Try.ntmps41
      go_wp2
      go_ret
      exact ⟨by rw [hv.out]; rfl, World.grownBy_alloc _ _ _⟩
  have b2 : (k == 2) = false := by simp [e2]
  have hv := Lib.hid (show lengthB k n 0 = false by simp [lengthB, e0, e1, e2])
  clear e0 e1 e2
  go_enter Try.func41, Try.ntmps41
  go_wp2
  go_ret
  exact ⟨by rw [hv.out]; rfl, World.grownBy_alloc _ _ _⟩
def oneOf (x : Int) (l : List Int) : Bool := l.any fun y => decide (x = y)
def badM (k n : Int) : Bool := !lengthB k n (-274877906944)
theorem badM_of (k n : Int) : badM k n = if lengthB k n 0 then false else !(decide (k = 1) && (decide (n < 0) && decide (-274877906944 ≤ n))) := by
  unfold badM lengthB amongB
  by_cases h0 : k = 0
  · subst h0; by_cases h : n = 0 <;> simp [h]
  by_cases h1 : k = 1
  · subst h1
    by_cases h2 : 0 ≤ n
    · have h3 : -274877906944 ≤ n := by omega
      have h4 : ¬ n < 0 := by omega
      simp [h2, h3, h4]
    · have h4 : n < 0 := by omega
      have h5 : n ≤ 274877906944 := by omega
      simp [h2, h4, h5]
  · simp [h0, h1]
def rmayB (s : Sty) : Bool :=
  !decide (2 < s.n 0) && (!decide (2 < s.n 33) && (!decide (2 < s.n 35) && (!decide (3 < s.n 36) && (oneOf (s.n 34) [0, 1, 2] && (oneOf (s.n 39) [0, 1, 2, 5] && (oneOf (s.n 37) [0, 1, 2, 3, 4] &&
  (lengthB (s.n 2) (s.n 3) 0 && (lengthB (s.n 4) (s.n 5) 0 && (lengthB (s.n 6) (s.n 7) 0 && (lengthB (s.n 44) (s.n 45) 0 && (lengthB (s.n 8) (s.n 9) 0 && (lengthB (s.n 10) (s.n 11) 0 && (lengthB (s.n 12) (s.n 13) 0)))))) && (!decide (s.n 8 = 2) && (!decide (s.n 10 = 2) && (!decide (s.n 12 = 2) && ((!badM (s.n 14) (s.n 15) && (amongB (s.n 22) 0 274877906944 && amongB (s.n 26) 0 274877906944)) && ((!badM (s.n 16) (s.n 17) && (amongB (s.n 23) 0 274877906944 && amongB (s.n 27) 0 274877906944)) && ((!badM (s.n 18) (s.n 19) && (amongB (s.n 24) 0 274877906944 && amongB (s.n 28) 0 274877906944)) && ((!badM (s.n 20) (s.n 21) && (amongB (s.n 25) 0 274877906944 && amongB (s.n 29) 0 274877906944))))) && (amongB (s.n 40) 0 274877906944 && (amongB (s.n 41) 0 274877906944 && (amongB (s.n 30) (-274877906944) 274877906944 && (amongB (s.n 31) (-274877906944) 274877906944 && (amongB (s.n 32) 0 1000 && (amongB (s.n 42) 0 1000 && (amongB (s.n 43) 0 1000 && (amongB (s.n 46) (-1000) 1000)))))))))))))))))))
theorem one3 {x : Int} (h : 0 ≤ x) : oneOf x [0, 1, 2] = decide (x ≤ 2) := by
  simp only [oneOf, List.any_cons, List.any_nil, Bool.or_false]
  by_cases h1 : x ≤ 2
  · rw [decide_eq_true h1]
    have : x = 0 ∨ x = 1 ∨ x = 2 := by omega
    rcases this with rfl | rfl | rfl <;> rfl
  · rw [decide_eq_false h1]
    simp
    omega
theorem one4 {x : Int} (h : 0 ≤ x) : oneOf x [0, 1, 2, 5] = (decide (x ≤ 2) || decide (x = 5)) := by
  simp only [oneOf, List.any_cons, List.any_nil, Bool.or_false]
  by_cases h1 : x ≤ 2
  · rw [decide_eq_true h1]
    have : x = 0 ∨ x = 1 ∨ x = 2 := by omega
    rcases this with rfl | rfl | rfl <;> rfl
  · rw [decide_eq_false h1, decide_eq_false (by omega : ¬ x = 0), decide_eq_false (by omega : ¬ x = 1), decide_eq_false (by omega : ¬ x = 2)]
    rfl
theorem one5 {x : Int} (h : 0 ≤ x) : oneOf x [0, 1, 2, 3, 4] = decide (x ≤ 4) := by
  simp only [oneOf, List.any_cons, List.any_nil, Bool.or_false]
  by_cases h1 : x ≤ 4
  · rw [decide_eq_true h1]
    have : x = 0 ∨ x = 1 ∨ x = 2 ∨ x = 3 ∨ x = 4 := by omega
    rcases this with rfl | rfl | rfl | rfl | rfl <;> rfl
  · rw [decide_eq_false h1]
    simp
    omega
theorem not_gt (a x : Int) : (!decide (a < x)) = decide (x ≤ a) := by
  by_cases h : a < x
  · rw [decide_eq_true h, decide_eq_false (by omega)]; rfl
  · rw [decide_eq_false h, decide_eq_true (by omega)]; rfl
theorem rmay_eq {s : Sty} (hs : s.ok) : rmayB s = mayB s := by
  unfold rmayB
  rw [one3 (Sty.b34 hs).1, one4 (Sty.b39 hs).1, one5 (Sty.b37 hs).1]
  simp only [not_gt, badM, Bool.not_not]
  show _ = ((decide (s.n 0 ≤ 2) && decide (s.n 33 ≤ 2) && decide (s.n 35 ≤ 2)) && ((decide (s.n 36 ≤ 3) && decide (s.n 34 ≤ 2) && decide (s.n 37 ≤ 4)) && ((decide (s.n 39 ≤ 2) || decide (s.n 39 = 5)) && ((lengthB (s.n 2) (s.n 3) 0 && (lengthB (s.n 4) (s.n 5) 0 && (lengthB (s.n 6) (s.n 7) 0 && (lengthB (s.n 44) (s.n 45) 0)))) && (((!decide (s.n 8 = 2) && lengthB (s.n 8) (s.n 9) 0) && ((!decide (s.n 10 = 2) && lengthB (s.n 10) (s.n 11) 0) && ((!decide (s.n 12 = 2) && lengthB (s.n 12) (s.n 13) 0)))) && (((lengthB (s.n 14) (s.n 15) (-274877906944) && (amongB (s.n 22) 0 274877906944 && amongB (s.n 26) 0 274877906944)) && ((lengthB (s.n 16) (s.n 17) (-274877906944) && (amongB (s.n 23) 0 274877906944 && amongB (s.n 27) 0 274877906944)) && ((lengthB (s.n 18) (s.n 19) (-274877906944) && (amongB (s.n 24) 0 274877906944 && amongB (s.n 28) 0 274877906944)) && ((lengthB (s.n 20) (s.n 21) (-274877906944) && (amongB (s.n 25) 0 274877906944 && amongB (s.n 29) 0 274877906944)))))) && ((amongB (s.n 40) 0 274877906944 && (amongB (s.n 41) 0 274877906944 && (amongB (s.n 30) (-274877906944) 274877906944 && (amongB (s.n 31) (-274877906944) 274877906944)))) && ((amongB (s.n 32) 0 1000 && amongB (s.n 46) (-1000) 1000) && ((amongB (s.n 42) 0 1000 && amongB (s.n 43) 0 1000))))))))))
  generalize (decide (s.n 39 ≤ 2) || decide (s.n 39 = 5)) = o
  ac_rfl
set_option maxHeartbeats 8000000 in
set_option maxRecDepth 100000 in
theorem rmay_any (s : Sty) (w : World) (hs : s.ok) :
    Calls Try.prog 28 #[.agg s.cells] w fun e w' => e = .returned (.bool (rmayB s)) ∧ w.grownBy w' none := by
  have b0 := Sty.b0 hs
  have k0 := s.c0
  have b33 := Sty.b33 hs
  have k33 := s.c33
  have b34 := Sty.b34 hs
  have k34 := s.c34
  have b35 := Sty.b35 hs
  have k35 := s.c35
  have b36 := Sty.b36 hs
  have k36 := s.c36
  have b37 := Sty.b37 hs
  have k37 := s.c37
  have b39 := Sty.b39 hs
  have k39 := s.c39
  have b2 := Sty.b2 hs
  have k2 := s.c2
  have b3 := Sty.b3 hs
  have k3 := s.c3
  have b4 := Sty.b4 hs
  have k4 := s.c4
  have b5 := Sty.b5 hs
  have k5 := s.c5
  have b6 := Sty.b6 hs
  have k6 := s.c6
  have b7 := Sty.b7 hs
  have k7 := s.c7
  have b44 := Sty.b44 hs
  have k44 := s.c44
  have b45 := Sty.b45 hs
  have k45 := s.c45
  have b8 := Sty.b8 hs
  have k8 := s.c8
  have b9 := Sty.b9 hs
  have k9 := s.c9
  have b10 := Sty.b10 hs
  have k10 := s.c10
  have b11 := Sty.b11 hs
  have k11 := s.c11
  have b12 := Sty.b12 hs
  have k12 := s.c12
  have b13 := Sty.b13 hs
  have k13 := s.c13
  have b14 := Sty.b14 hs
  have k14 := s.c14
  have b15 := Sty.b15 hs
  have k15 := s.c15
  have b16 := Sty.b16 hs
  have k16 := s.c16
  have b17 := Sty.b17 hs
  have k17 := s.c17
  have b18 := Sty.b18 hs
  have k18 := s.c18
  have b19 := Sty.b19 hs
  have k19 := s.c19
  have b20 := Sty.b20 hs
  have k20 := s.c20
  have b21 := Sty.b21 hs
  have k21 := s.c21
  have b22 := Sty.b22 hs
  have k22 := s.c22
  have b23 := Sty.b23 hs
  have k23 := s.c23
  have b24 := Sty.b24 hs
  have k24 := s.c24
  have b25 := Sty.b25 hs
  have k25 := s.c25
  have b26 := Sty.b26 hs
  have k26 := s.c26
  have b27 := Sty.b27 hs
  have k27 := s.c27
  have b28 := Sty.b28 hs
  have k28 := s.c28
  have b29 := Sty.b29 hs
  have k29 := s.c29
  have b40 := Sty.b40 hs
  have k40 := s.c40
  have b41 := Sty.b41 hs
  have k41 := s.c41
  have b30 := Sty.b30 hs
  have k30 := s.c30
  have b31 := Sty.b31 hs
  have k31 := s.c31
  have b32 := Sty.b32 hs
  have k32 := s.c32
  have b42 := Sty.b42 hs
  have k42 := s.c42
  have b43 := Sty.b43 hs
  have k43 := s.c43
  have b46 := Sty.b46 hs
  have k46 := s.c46
  have CL0 := Lib.hid (fun W => rlength_any (s.n 2) (s.n 3) W b2.1 b2.2 b3.1 b3.2)
  have CL1 := Lib.hid (fun W => rlength_any (s.n 4) (s.n 5) W b4.1 b4.2 b5.1 b5.2)
  have CL2 := Lib.hid (fun W => rlength_any (s.n 6) (s.n 7) W b6.1 b6.2 b7.1 b7.2)
  have CL3 := Lib.hid (fun W => rlength_any (s.n 44) (s.n 45) W b44.1 b44.2 b45.1 b45.2)
  have CL4 := Lib.hid (fun W => rlength_any (s.n 8) (s.n 9) W b8.1 b8.2 b9.1 b9.2)
  have CL5 := Lib.hid (fun W => rlength_any (s.n 10) (s.n 11) W b10.1 b10.2 b11.1 b11.2)
  have CL6 := Lib.hid (fun W => rlength_any (s.n 12) (s.n 13) W b12.1 b12.2 b13.1 b13.2)
  have CM0 := Lib.hid (fun W => rlength_any (s.n 14) (s.n 15) W b14.1 b14.2 b15.1 b15.2)
  have CP0 := Lib.hid (fun W => natural_any (s.n 22) 274877906944 W b22.1 b22.2)
  have CB0 := Lib.hid (fun W => natural_any (s.n 26) 274877906944 W b26.1 b26.2)
  have CM1 := Lib.hid (fun W => rlength_any (s.n 16) (s.n 17) W b16.1 b16.2 b17.1 b17.2)
  have CP1 := Lib.hid (fun W => natural_any (s.n 23) 274877906944 W b23.1 b23.2)
  have CB1 := Lib.hid (fun W => natural_any (s.n 27) 274877906944 W b27.1 b27.2)
  have CM2 := Lib.hid (fun W => rlength_any (s.n 18) (s.n 19) W b18.1 b18.2 b19.1 b19.2)
  have CP2 := Lib.hid (fun W => natural_any (s.n 24) 274877906944 W b24.1 b24.2)
  have CB2 := Lib.hid (fun W => natural_any (s.n 28) 274877906944 W b28.1 b28.2)
  have CM3 := Lib.hid (fun W => rlength_any (s.n 20) (s.n 21) W b20.1 b20.2 b21.1 b21.2)
  have CP3 := Lib.hid (fun W => natural_any (s.n 25) 274877906944 W b25.1 b25.2)
  have CB3 := Lib.hid (fun W => natural_any (s.n 29) 274877906944 W b29.1 b29.2)
  have CZ0 := Lib.hid (fun W => natural_any (s.n 40) 274877906944 W b40.1 b40.2)
  have CZ1 := Lib.hid (fun W => natural_any (s.n 41) 274877906944 W b41.1 b41.2)
  have CZ2 := Lib.hid (fun W => within_far (s.n 30) W b30.1 b30.2)
  have CZ3 := Lib.hid (fun W => within_far (s.n 31) W b31.1 b31.2)
  have CZ4 := Lib.hid (fun W => natural_any (s.n 32) 1000 W b32.1 b32.2)
  have CZ5 := Lib.hid (fun W => natural_any (s.n 42) 1000 W b42.1 b42.2)
  have CZ6 := Lib.hid (fun W => natural_any (s.n 43) 1000 W b43.1 b43.2)
  have CZ7 := Lib.hid (fun W => within_near (s.n 46) W b46.1 b46.2)
  have hm0 := Lib.hid (badM_of (s.n 14) (s.n 15))
  have hm1 := Lib.hid (badM_of (s.n 16) (s.n 17))
  have hm2 := Lib.hid (badM_of (s.n 18) (s.n 19))
  have hm3 := Lib.hid (badM_of (s.n 20) (s.n 21))
  have hv := Lib.hid (show rmayB s = (!decide (2 < s.n 0) && (!decide (2 < s.n 33) && (!decide (2 < s.n 35) && (!decide (3 < s.n 36) && (oneOf (s.n 34) [0, 1, 2] && (oneOf (s.n 39) [0, 1, 2, 5] && (oneOf (s.n 37) [0, 1, 2, 3, 4] && (lengthB (s.n 2) (s.n 3) 0 && (lengthB (s.n 4) (s.n 5) 0 && (lengthB (s.n 6) (s.n 7) 0 && (lengthB (s.n 44) (s.n 45) 0 && (lengthB (s.n 8) (s.n 9) 0 && (lengthB (s.n 10) (s.n 11) 0 && (lengthB (s.n 12) (s.n 13) 0)))))) && (!decide (s.n 8 = 2) && (!decide (s.n 10 = 2) && (!decide (s.n 12 = 2) && ((!badM (s.n 14) (s.n 15) && (amongB (s.n 22) 0 274877906944 && amongB (s.n 26) 0 274877906944)) && ((!badM (s.n 16) (s.n 17) && (amongB (s.n 23) 0 274877906944 && amongB (s.n 27) 0 274877906944)) && ((!badM (s.n 18) (s.n 19) && (amongB (s.n 24) 0 274877906944 && amongB (s.n 28) 0 274877906944)) && ((!badM (s.n 20) (s.n 21) && (amongB (s.n 25) 0 274877906944 && amongB (s.n 29) 0 274877906944))))) && (amongB (s.n 40) 0 274877906944 && (amongB (s.n 41) 0 274877906944 && (amongB (s.n 30) (-274877906944) 274877906944 && (amongB (s.n 31) (-274877906944) 274877906944 && (amongB (s.n 32) 0 1000 && (amongB (s.n 42) 0 1000 && (amongB (s.n 43) 0 1000 && (amongB (s.n 46) (-1000) 1000)))))))))))))))))))) from rfl)
  have ho1 := Lib.hid (show oneOf (s.n 34) [0, 1, 2] = oneOf (s.n 34) [0, 1, 2] from rfl)
  obtain ⟨o1, eo1⟩ : ∃ b, b = oneOf (s.n 34) [0, 1, 2] := ⟨_, rfl⟩
  rw [← eo1] at hv
  replace ho1 := Lib.hid eo1
  clear eo1
  have ho2 := Lib.hid (show oneOf (s.n 39) [0, 1, 2, 5] = oneOf (s.n 39) [0, 1, 2, 5] from rfl)
  obtain ⟨o2, eo2⟩ : ∃ b, b = oneOf (s.n 39) [0, 1, 2, 5] := ⟨_, rfl⟩
  rw [← eo2] at hv
  replace ho2 := Lib.hid eo2
  clear eo2
  have ho3 := Lib.hid (show oneOf (s.n 37) [0, 1, 2, 3, 4] = oneOf (s.n 37) [0, 1, 2, 3, 4] from rfl)
  obtain ⟨o3, eo3⟩ : ∃ b, b = oneOf (s.n 37) [0, 1, 2, 3, 4] := ⟨_, rfl⟩
  rw [← eo3] at hv
  replace ho3 := Lib.hid eo3
  clear eo3
  generalize lengthB (s.n 2) (s.n 3) 0 = l0 at *
  generalize lengthB (s.n 4) (s.n 5) 0 = l1 at *
  generalize lengthB (s.n 6) (s.n 7) 0 = l2 at *
  generalize lengthB (s.n 44) (s.n 45) 0 = l3 at *
  generalize lengthB (s.n 8) (s.n 9) 0 = l4 at *
  generalize lengthB (s.n 10) (s.n 11) 0 = l5 at *
  generalize lengthB (s.n 12) (s.n 13) 0 = l6 at *
  generalize lengthB (s.n 14) (s.n 15) 0 = v0 at *
  generalize badM (s.n 14) (s.n 15) = m0 at *
  generalize amongB (s.n 22) 0 274877906944 = p0 at *
  generalize amongB (s.n 26) 0 274877906944 = q0 at *
  generalize lengthB (s.n 16) (s.n 17) 0 = v1 at *
  generalize badM (s.n 16) (s.n 17) = m1 at *
  generalize amongB (s.n 23) 0 274877906944 = p1 at *
  generalize amongB (s.n 27) 0 274877906944 = q1 at *
  generalize lengthB (s.n 18) (s.n 19) 0 = v2 at *
  generalize badM (s.n 18) (s.n 19) = m2 at *
  generalize amongB (s.n 24) 0 274877906944 = p2 at *
  generalize amongB (s.n 28) 0 274877906944 = q2 at *
  generalize lengthB (s.n 20) (s.n 21) 0 = v3 at *
  generalize badM (s.n 20) (s.n 21) = m3 at *
  generalize amongB (s.n 25) 0 274877906944 = p3 at *
  generalize amongB (s.n 29) 0 274877906944 = q3 at *
  generalize amongB (s.n 40) 0 274877906944 = z0 at *
  generalize amongB (s.n 41) 0 274877906944 = z1 at *
  generalize amongB (s.n 30) (-274877906944) 274877906944 = z2 at *
  generalize amongB (s.n 31) (-274877906944) 274877906944 = z3 at *
  generalize amongB (s.n 32) 0 1000 = z4 at *
  generalize amongB (s.n 42) 0 1000 = z5 at *
  generalize amongB (s.n 43) 0 1000 = z6 at *
  generalize amongB (s.n 46) (-1000) 1000 = z7 at *
  generalize s.n 0 = x0 at *
  generalize s.n 33 = x33 at *
  generalize s.n 35 = x35 at *
  generalize s.n 36 = x36 at *
  generalize s.n 34 = x34 at *
  generalize s.n 39 = x39 at *
  generalize s.n 37 = x37 at *
  generalize s.n 8 = x8 at *
  generalize s.n 10 = x10 at *
  generalize s.n 12 = x12 at *
  generalize s.n 14 = x14 at *
  generalize s.n 15 = x15 at *
  generalize s.n 16 = x16 at *
  generalize s.n 17 = x17 at *
  generalize s.n 18 = x18 at *
  generalize s.n 19 = x19 at *
  generalize s.n 20 = x20 at *
  generalize s.n 21 = x21 at *
  go_enter Try.func28, Try.ntmps28
  by_cases e0 : 2 < x0
  · go_wp2
    go_ret
    exact ⟨ret_b (by rw [hv.out]; simp [e0]), World.grownBy_alloc _ _ _⟩
  by_cases e33 : 2 < x33
  · go_wp2
    go_ret
    exact ⟨ret_b (by rw [hv.out]; simp [e33]), World.grownBy_alloc _ _ _⟩
  by_cases e35 : 2 < x35
  · go_wp2
    go_ret
    exact ⟨ret_b (by rw [hv.out]; simp [e35]), World.grownBy_alloc _ _ _⟩
  by_cases e36 : 3 < x36
  · go_wp2
    go_ret
    exact ⟨ret_b (by rw [hv.out]; simp [e36]), World.grownBy_alloc _ _ _⟩
  go_upto_region 3 with fail
  go_cut [34] from 22 to 34 (fun v wx => v = .bool (!o1) ∧ wx = (w.alloc (.cells s.cells 39)))
  case first =>
    by_cases f0 : x34 = 0
    · subst f0
      have ho : o1 = true := by rw [ho1.out]; rfl
      go_wp2_with fail
      go_meet
      exact ⟨by rw [ho]; rfl, rfl⟩
    by_cases f1 : x34 = 1
    · subst f1
      have ho : o1 = true := by rw [ho1.out]; rfl
      go_wp2_with fail
      go_meet
      exact ⟨by rw [ho]; rfl, rfl⟩
    by_cases f2 : x34 = 2
    · subst f2
      have ho : o1 = true := by rw [ho1.out]; rfl
      go_wp2_with fail
      go_meet
      exact ⟨by rw [ho]; rfl, rfl⟩
    have ho : o1 = false := by rw [ho1.out]; simp [oneOf, f0, f1, f2]
    have g0 : (x34 != 0) = true := by simp [f0]
    have g1 : (x34 != 1) = true := by simp [f1]
    have g2 : (x34 != 2) = true := by simp [f2]
    clear f0 f1 f2
    go_wp2_with fail
    go_meet
    exact ⟨by rw [ho]; rfl, rfl⟩
  case rest =>
  obtain ⟨rfl, rfl⟩ := hcut
  cases o1 with
  | false =>
    go_wp2
    go_ret
    exact ⟨ret_b (by rw [hv.out]; simp [*]), World.grownBy_alloc _ _ _⟩
  | true =>
    clear ho1
    go_upto_region 5 with fail
    go_cut [52] from 35 to 52 (fun v wx => v = .bool (!o2) ∧ wx = (w.alloc (.cells s.cells 39)))
    case first =>
      by_cases f0 : x39 = 0
      · subst f0
        have ho : o2 = true := by rw [ho2.out]; rfl
        go_wp2_with fail
        go_meet
        exact ⟨by rw [ho]; rfl, rfl⟩
      by_cases f1 : x39 = 1
      · subst f1
        have ho : o2 = true := by rw [ho2.out]; rfl
        go_wp2_with fail
        go_meet
        exact ⟨by rw [ho]; rfl, rfl⟩
      by_cases f2 : x39 = 2
      · subst f2
        have ho : o2 = true := by rw [ho2.out]; rfl
        go_wp2_with fail
        go_meet
        exact ⟨by rw [ho]; rfl, rfl⟩
      by_cases f5 : x39 = 5
      · subst f5
        have ho : o2 = true := by rw [ho2.out]; rfl
        go_wp2_with fail
        go_meet
        exact ⟨by rw [ho]; rfl, rfl⟩
      have ho : o2 = false := by rw [ho2.out]; simp [oneOf, f0, f1, f2, f5]
      have g0 : (x39 != 0) = true := by simp [f0]
      have g1 : (x39 != 1) = true := by simp [f1]
      have g2 : (x39 != 2) = true := by simp [f2]
      have g5 : (x39 != 5) = true := by simp [f5]
      clear f0 f1 f2 f5
      go_wp2_with fail
      go_meet
      exact ⟨by rw [ho]; rfl, rfl⟩
    case rest =>
    obtain ⟨rfl, rfl⟩ := hcut
    cases o2 with
    | false =>
      go_wp2
      go_ret
      exact ⟨ret_b (by rw [hv.out]; simp [*]), World.grownBy_alloc _ _ _⟩
    | true =>
      clear ho2
      go_upto_region 7 with fail
      go_cut [75] from 53 to 75 (fun v wx => v = .bool (!o3) ∧ wx = (w.alloc (.cells s.cells 39)))
      case first =>
        by_cases f0 : x37 = 0
        · subst f0
          have ho : o3 = true := by rw [ho3.out]; rfl
          go_wp2_with fail
          go_meet
          exact ⟨by rw [ho]; rfl, rfl⟩
        by_cases f1 : x37 = 1
        · subst f1
          have ho : o3 = true := by rw [ho3.out]; rfl
          go_wp2_with fail
          go_meet
          exact ⟨by rw [ho]; rfl, rfl⟩
        by_cases f2 : x37 = 2
        · subst f2
          have ho : o3 = true := by rw [ho3.out]; rfl
          go_wp2_with fail
          go_meet
          exact ⟨by rw [ho]; rfl, rfl⟩
        by_cases f3 : x37 = 3
        · subst f3
          have ho : o3 = true := by rw [ho3.out]; rfl
          go_wp2_with fail
          go_meet
          exact ⟨by rw [ho]; rfl, rfl⟩
        by_cases f4 : x37 = 4
        · subst f4
          have ho : o3 = true := by rw [ho3.out]; rfl
          go_wp2_with fail
          go_meet
          exact ⟨by rw [ho]; rfl, rfl⟩
        have ho : o3 = false := by rw [ho3.out]; simp [oneOf, f0, f1, f2, f3, f4]
        have g0 : (x37 != 0) = true := by simp [f0]
        have g1 : (x37 != 1) = true := by simp [f1]
        have g2 : (x37 != 2) = true := by simp [f2]
        have g3 : (x37 != 3) = true := by simp [f3]
        have g4 : (x37 != 4) = true := by simp [f4]
        clear f0 f1 f2 f3 f4
        go_wp2_with fail
        go_meet
        exact ⟨by rw [ho]; rfl, rfl⟩
      case rest =>
      obtain ⟨rfl, rfl⟩ := hcut
      cases o3 with
      | false =>
        go_wp2
        go_ret
        exact ⟨ret_b (by rw [hv.out]; simp [*]), World.grownBy_alloc _ _ _⟩
      | true =>
        clear ho3
        go_wp2_with fail
        refine (CL0.out _).mono ?_; rintro e w1 ⟨rfl, hx1⟩
        have hG1 := hx1
        obtain ⟨hc, hf⟩ := sty_cells hG1
        simp only [World.size_alloc] at hc hf
        cases l0 with
        | false =>
          go_wp2
          go_ret
          exact ⟨ret_b (by rw [hv.out]; simp [*]), grown_trans (World.grownBy_alloc _ _ _) hG1⟩
        | true =>
          go_wp2_with fail
          refine (CL1.out _).mono ?_; rintro e w2 ⟨rfl, hx2⟩
          have hG2 := grown_trans hG1 hx2
          clear hc hf
          obtain ⟨hc, hf⟩ := sty_cells hG2
          simp only [World.size_alloc] at hc hf
          cases l1 with
          | false =>
            go_wp2
            go_ret
            exact ⟨ret_b (by rw [hv.out]; simp [*]), grown_trans (World.grownBy_alloc _ _ _) hG2⟩
          | true =>
            go_wp2_with fail
            refine (CL2.out _).mono ?_; rintro e w3 ⟨rfl, hx3⟩
            have hG3 := grown_trans hG2 hx3
            clear hc hf
            obtain ⟨hc, hf⟩ := sty_cells hG3
            simp only [World.size_alloc] at hc hf
            cases l2 with
            | false =>
              go_wp2
              go_ret
              exact ⟨ret_b (by rw [hv.out]; simp [*]), grown_trans (World.grownBy_alloc _ _ _) hG3⟩
            | true =>
              go_wp2_with fail
              refine (CL3.out _).mono ?_; rintro e w4 ⟨rfl, hx4⟩
              have hG4 := grown_trans hG3 hx4
              clear hc hf
              obtain ⟨hc, hf⟩ := sty_cells hG4
              simp only [World.size_alloc] at hc hf
              cases l3 with
              | false =>
                go_wp2
                go_ret
                exact ⟨ret_b (by rw [hv.out]; simp [*]), grown_trans (World.grownBy_alloc _ _ _) hG4⟩
              | true =>
                go_wp2_with fail
                refine (CL4.out _).mono ?_; rintro e w5 ⟨rfl, hx5⟩
                have hG5 := grown_trans hG4 hx5
                clear hc hf
                obtain ⟨hc, hf⟩ := sty_cells hG5
                simp only [World.size_alloc] at hc hf
                cases l4 with
                | false =>
                  go_wp2
                  go_ret
                  exact ⟨ret_b (by rw [hv.out]; simp [*]), grown_trans (World.grownBy_alloc _ _ _) hG5⟩
                | true =>
                  go_wp2_with fail
                  refine (CL5.out _).mono ?_; rintro e w6 ⟨rfl, hx6⟩
                  have hG6 := grown_trans hG5 hx6
                  clear hc hf
                  obtain ⟨hc, hf⟩ := sty_cells hG6
                  simp only [World.size_alloc] at hc hf
                  cases l5 with
                  | false =>
                    go_wp2
                    go_ret
                    exact ⟨ret_b (by rw [hv.out]; simp [*]), grown_trans (World.grownBy_alloc _ _ _) hG6⟩
                  | true =>
                    go_wp2_with fail
                    refine (CL6.out _).mono ?_; rintro e w7 ⟨rfl, hx7⟩
                    have hG7 := grown_trans hG6 hx7
                    clear hc hf
                    obtain ⟨hc, hf⟩ := sty_cells hG7
                    simp only [World.size_alloc] at hc hf
                    cases l6 with
                    | false =>
                      go_wp2
                      go_ret
                      exact ⟨ret_b (by rw [hv.out]; simp [*]), grown_trans (World.grownBy_alloc _ _ _) hG7⟩
                    | true =>
                      by_cases d8 : x8 = 2
                      · subst d8
                        go_wp2
                        go_ret
                        exact ⟨ret_b (by rw [hv.out]; simp [*]), grown_trans (World.grownBy_alloc _ _ _) hG7⟩
                      have d8' : (x8 == 2) = false := by simp [d8]
                      by_cases d10 : x10 = 2
                      · subst d10
                        go_wp2
                        go_ret
                        exact ⟨ret_b (by rw [hv.out]; simp [*]), grown_trans (World.grownBy_alloc _ _ _) hG7⟩
                      have d10' : (x10 == 2) = false := by simp [d10]
                      by_cases d12 : x12 = 2
                      · subst d12
                        go_wp2
                        go_ret
                        exact ⟨ret_b (by rw [hv.out]; simp [*]), grown_trans (World.grownBy_alloc _ _ _) hG7⟩
                      have d12' : (x12 == 2) = false := by simp [d12]
                      go_wp2_with fail
                      refine wp_loop_rounds 5 ?_
                      rw [rounds_succ]
                      go_upto_region 16 with fail
                      go_cut [166] from 132 to 180 (fun v wx => v = .bool m0 ∧ (w.alloc (.cells s.cells 39)).grownBy wx none)
                      case first =>
                        go_wp2_with fail
                        refine (CM0.out _).mono ?_; rintro e wz ⟨rfl, hx⟩
                        have hGz := grown_trans hG7 hx
                        clear hc hf
                        obtain ⟨hc, hf⟩ := sty_cells hGz
                        simp only [World.size_alloc] at hc hf
                        cases v0 with
                        | true =>
                          go_wp2_with fail
                          go_meet
                          exact ⟨by rw [hm0.out]; simp [*], hGz⟩
                        | false =>
                          by_cases a1 : x14 = 1
                          · subst a1
                            by_cases a2 : x15 < 0
                            · by_cases a3 : -274877906944 ≤ x15
                              · go_wp2_with fail
                                go_meet
                                exact ⟨by rw [hm0.out]; simp [*], hGz⟩
                              · have a3' : decide (-274877906944 ≤ x15) = false := by simp; omega
                                clear a3
                                go_wp2_with fail
                                go_meet
                                exact ⟨by rw [hm0.out]; simp [*], hGz⟩
                            · have a2' : decide (x15 < 0) = false := by simp; omega
                              clear a2
                              go_wp2_with fail
                              go_meet
                              exact ⟨by rw [hm0.out]; simp [*], hGz⟩
                          · have a1' : (x14 == 1) = false := by simp [a1]
                            go_wp2_with fail
                            go_meet
                            exact ⟨by rw [hm0.out]; simp [*], hGz⟩
                      case rest =>
                      obtain ⟨rfl, hG8⟩ := hcut
                      clear hc hf
                      obtain ⟨hc, hf⟩ := sty_cells hG8
                      simp only [World.size_alloc] at hc hf
                      cases m0 with
                      | true =>
                        go_wp2
                        go_ret
                        exact ⟨ret_b (by rw [hv.out]; simp [*]), grown_trans (World.grownBy_alloc _ _ _) hG8⟩
                      | false =>
                        go_wp2_with fail
                        refine (CP0.out _).mono ?_; rintro e wy ⟨rfl, rfl⟩
                        cases p0 with
                        | false =>
                          go_wp2
                          go_ret
                          exact ⟨ret_b (by rw [hv.out]; simp [*]), grown_trans (World.grownBy_alloc _ _ _) hG8⟩
                        | true =>
                          go_wp2_with fail
                          refine (CB0.out _).mono ?_; rintro e wy ⟨rfl, rfl⟩
                          cases q0 with
                          | false =>
                            go_wp2
                            go_ret
                            exact ⟨ret_b (by rw [hv.out]; simp [*]), grown_trans (World.grownBy_alloc _ _ _) hG8⟩
                          | true =>
                            go_wp2_with fail
                            rw [rounds_succ]
                            go_upto_region 16 with fail
                            go_cut [166] from 132 to 180 (fun v wx => v = .bool m1 ∧ (w.alloc (.cells s.cells 39)).grownBy wx none)
                            case first =>
                              go_wp2_with fail
                              refine (CM1.out _).mono ?_; rintro e wz ⟨rfl, hx⟩
                              have hGz := grown_trans hG8 hx
                              clear hc hf
                              obtain ⟨hc, hf⟩ := sty_cells hGz
                              simp only [World.size_alloc] at hc hf
                              cases v1 with
                              | true =>
                                go_wp2_with fail
                                go_meet
                                exact ⟨by rw [hm1.out]; simp [*], hGz⟩
                              | false =>
                                by_cases a1 : x16 = 1
                                · subst a1
                                  by_cases a2 : x17 < 0
                                  · by_cases a3 : -274877906944 ≤ x17
                                    · go_wp2_with fail
                                      go_meet
                                      exact ⟨by rw [hm1.out]; simp [*], hGz⟩
                                    · have a3' : decide (-274877906944 ≤ x17) = false := by simp; omega
                                      clear a3
                                      go_wp2_with fail
                                      go_meet
                                      exact ⟨by rw [hm1.out]; simp [*], hGz⟩
                                  · have a2' : decide (x17 < 0) = false := by simp; omega
                                    clear a2
                                    go_wp2_with fail
                                    go_meet
                                    exact ⟨by rw [hm1.out]; simp [*], hGz⟩
                                · have a1' : (x16 == 1) = false := by simp [a1]
                                  go_wp2_with fail
                                  go_meet
                                  exact ⟨by rw [hm1.out]; simp [*], hGz⟩
                            case rest =>
                            obtain ⟨rfl, hG9⟩ := hcut
                            clear hc hf
                            obtain ⟨hc, hf⟩ := sty_cells hG9
                            simp only [World.size_alloc] at hc hf
                            cases m1 with
                            | true =>
                              go_wp2
                              go_ret
                              exact ⟨ret_b (by rw [hv.out]; simp [*]), grown_trans (World.grownBy_alloc _ _ _) hG9⟩
                            | false =>
                              go_wp2_with fail
                              refine (CP1.out _).mono ?_; rintro e wy ⟨rfl, rfl⟩
                              cases p1 with
                              | false =>
                                go_wp2
                                go_ret
                                exact ⟨ret_b (by rw [hv.out]; simp [*]), grown_trans (World.grownBy_alloc _ _ _) hG9⟩
                              | true =>
                                go_wp2_with fail
                                refine (CB1.out _).mono ?_; rintro e wy ⟨rfl, rfl⟩
                                cases q1 with
                                | false =>
                                  go_wp2
                                  go_ret
                                  exact ⟨ret_b (by rw [hv.out]; simp [*]), grown_trans (World.grownBy_alloc _ _ _) hG9⟩
                                | true =>
                                  go_wp2_with fail
                                  rw [rounds_succ]
                                  go_upto_region 16 with fail
                                  go_cut [166] from 132 to 180 (fun v wx => v = .bool m2 ∧ (w.alloc (.cells s.cells 39)).grownBy wx none)
                                  case first =>
                                    go_wp2_with fail
                                    refine (CM2.out _).mono ?_; rintro e wz ⟨rfl, hx⟩
                                    have hGz := grown_trans hG9 hx
                                    clear hc hf
                                    obtain ⟨hc, hf⟩ := sty_cells hGz
                                    simp only [World.size_alloc] at hc hf
                                    cases v2 with
                                    | true =>
                                      go_wp2_with fail
                                      go_meet
                                      exact ⟨by rw [hm2.out]; simp [*], hGz⟩
                                    | false =>
                                      by_cases a1 : x18 = 1
                                      · subst a1
                                        by_cases a2 : x19 < 0
                                        · by_cases a3 : -274877906944 ≤ x19
                                          · go_wp2_with fail
                                            go_meet
                                            exact ⟨by rw [hm2.out]; simp [*], hGz⟩
                                          · have a3' : decide (-274877906944 ≤ x19) = false := by simp; omega
                                            clear a3
                                            go_wp2_with fail
                                            go_meet
                                            exact ⟨by rw [hm2.out]; simp [*], hGz⟩
                                        · have a2' : decide (x19 < 0) = false := by simp; omega
                                          clear a2
                                          go_wp2_with fail
                                          go_meet
                                          exact ⟨by rw [hm2.out]; simp [*], hGz⟩
                                      · have a1' : (x18 == 1) = false := by simp [a1]
                                        go_wp2_with fail
                                        go_meet
                                        exact ⟨by rw [hm2.out]; simp [*], hGz⟩
                                  case rest =>
                                  obtain ⟨rfl, hG10⟩ := hcut
                                  clear hc hf
                                  obtain ⟨hc, hf⟩ := sty_cells hG10
                                  simp only [World.size_alloc] at hc hf
                                  cases m2 with
                                  | true =>
                                    go_wp2
                                    go_ret
                                    exact ⟨ret_b (by rw [hv.out]; simp [*]), grown_trans (World.grownBy_alloc _ _ _) hG10⟩
                                  | false =>
                                    go_wp2_with fail
                                    refine (CP2.out _).mono ?_; rintro e wy ⟨rfl, rfl⟩
                                    cases p2 with
                                    | false =>
                                      go_wp2
                                      go_ret
                                      exact ⟨ret_b (by rw [hv.out]; simp [*]), grown_trans (World.grownBy_alloc _ _ _) hG10⟩
                                    | true =>
                                      go_wp2_with fail
                                      refine (CB2.out _).mono ?_; rintro e wy ⟨rfl, rfl⟩
                                      cases q2 with
                                      | false =>
                                        go_wp2
                                        go_ret
                                        exact ⟨ret_b (by rw [hv.out]; simp [*]), grown_trans (World.grownBy_alloc _ _ _) hG10⟩
                                      | true =>
                                        go_wp2_with fail
                                        rw [rounds_succ]
                                        go_upto_region 16 with fail
                                        go_cut [166] from 132 to 180 (fun v wx => v = .bool m3 ∧ (w.alloc (.cells s.cells 39)).grownBy wx none)
                                        case first =>
                                          go_wp2_with fail
                                          refine (CM3.out _).mono ?_; rintro e wz ⟨rfl, hx⟩
                                          have hGz := grown_trans hG10 hx
                                          clear hc hf
                                          obtain ⟨hc, hf⟩ := sty_cells hGz
                                          simp only [World.size_alloc] at hc hf
                                          cases v3 with
                                          | true =>
                                            go_wp2_with fail
                                            go_meet
                                            exact ⟨by rw [hm3.out]; simp [*], hGz⟩
                                          | false =>
                                            by_cases a1 : x20 = 1
                                            · subst a1
                                              by_cases a2 : x21 < 0
                                              · by_cases a3 : -274877906944 ≤ x21
                                                · go_wp2_with fail
                                                  go_meet
                                                  exact ⟨by rw [hm3.out]; simp [*], hGz⟩
                                                · have a3' : decide (-274877906944 ≤ x21) = false := by simp; omega
                                                  clear a3
                                                  go_wp2_with fail
                                                  go_meet
                                                  exact ⟨by rw [hm3.out]; simp [*], hGz⟩
                                              · have a2' : decide (x21 < 0) = false := by simp; omega
                                                clear a2
                                                go_wp2_with fail
                                                go_meet
                                                exact ⟨by rw [hm3.out]; simp [*], hGz⟩
                                            · have a1' : (x20 == 1) = false := by simp [a1]
                                              go_wp2_with fail
                                              go_meet
                                              exact ⟨by rw [hm3.out]; simp [*], hGz⟩
                                        case rest =>
                                        obtain ⟨rfl, hG11⟩ := hcut
                                        clear hc hf
                                        obtain ⟨hc, hf⟩ := sty_cells hG11
                                        simp only [World.size_alloc] at hc hf
                                        cases m3 with
                                        | true =>
                                          go_wp2
                                          go_ret
                                          exact ⟨ret_b (by rw [hv.out]; simp [*]), grown_trans (World.grownBy_alloc _ _ _) hG11⟩
                                        | false =>
                                          go_wp2_with fail
                                          refine (CP3.out _).mono ?_; rintro e wy ⟨rfl, rfl⟩
                                          cases p3 with
                                          | false =>
                                            go_wp2
                                            go_ret
                                            exact ⟨ret_b (by rw [hv.out]; simp [*]), grown_trans (World.grownBy_alloc _ _ _) hG11⟩
                                          | true =>
                                            go_wp2_with fail
                                            refine (CB3.out _).mono ?_; rintro e wy ⟨rfl, rfl⟩
                                            cases q3 with
                                            | false =>
                                              go_wp2
                                              go_ret
                                              exact ⟨ret_b (by rw [hv.out]; simp [*]), grown_trans (World.grownBy_alloc _ _ _) hG11⟩
                                            | true =>
                                              go_wp2_with fail
                                              rw [rounds_succ]
                                              go_wp2_with fail
                                              refine (CZ0.out _).mono ?_; rintro e wy ⟨rfl, rfl⟩
                                              cases z0 with
                                              | false =>
                                                go_wp2
                                                go_ret
                                                exact ⟨ret_b (by rw [hv.out]; simp [*]), grown_trans (World.grownBy_alloc _ _ _) hG11⟩
                                              | true =>
                                                go_wp2_with fail
                                                refine (CZ1.out _).mono ?_; rintro e wy ⟨rfl, rfl⟩
                                                cases z1 with
                                                | false =>
                                                  go_wp2
                                                  go_ret
                                                  exact ⟨ret_b (by rw [hv.out]; simp [*]), grown_trans (World.grownBy_alloc _ _ _) hG11⟩
                                                | true =>
                                                  go_wp2_with fail
                                                  refine (CZ2.out _).mono ?_; rintro e wy ⟨rfl, rfl⟩
                                                  cases z2 with
                                                  | false =>
                                                    go_wp2
                                                    go_ret
                                                    exact ⟨ret_b (by rw [hv.out]; simp [*]), grown_trans (World.grownBy_alloc _ _ _) hG11⟩
                                                  | true =>
                                                    go_wp2_with fail
                                                    refine (CZ3.out _).mono ?_; rintro e wy ⟨rfl, rfl⟩
                                                    cases z3 with
                                                    | false =>
                                                      go_wp2
                                                      go_ret
                                                      exact ⟨ret_b (by rw [hv.out]; simp [*]), grown_trans (World.grownBy_alloc _ _ _) hG11⟩
                                                    | true =>
                                                      go_wp2_with fail
                                                      refine (CZ4.out _).mono ?_; rintro e wy ⟨rfl, rfl⟩
                                                      cases z4 with
                                                      | false =>
                                                        go_wp2
                                                        go_ret
                                                        exact ⟨ret_b (by rw [hv.out]; simp [*]), grown_trans (World.grownBy_alloc _ _ _) hG11⟩
                                                      | true =>
                                                        go_wp2_with fail
                                                        refine (CZ5.out _).mono ?_; rintro e wy ⟨rfl, rfl⟩
                                                        cases z5 with
                                                        | false =>
                                                          go_wp2
                                                          go_ret
                                                          exact ⟨ret_b (by rw [hv.out]; simp [*]), grown_trans (World.grownBy_alloc _ _ _) hG11⟩
                                                        | true =>
                                                          go_wp2_with fail
                                                          refine (CZ6.out _).mono ?_; rintro e wy ⟨rfl, rfl⟩
                                                          cases z6 with
                                                          | false =>
                                                            go_wp2
                                                            go_ret
                                                            exact ⟨ret_b (by rw [hv.out]; simp [*]), grown_trans (World.grownBy_alloc _ _ _) hG11⟩
                                                          | true =>
                                                            go_wp2_with fail
                                                            refine (CZ7.out _).mono ?_; rintro e wy ⟨rfl, rfl⟩
                                                            cases z7 with
                                                            | false =>
                                                              go_wp2
                                                              go_ret
                                                              exact ⟨ret_b (by rw [hv.out]; simp [*]), grown_trans (World.grownBy_alloc _ _ _) hG11⟩
                                                            | true =>
                                                              go_wp2
                                                              go_ret
                                                              exact ⟨ret_b (by rw [hv.out]; simp [*]), grown_trans (World.grownBy_alloc _ _ _) hG11⟩
end Go.Proofs.Ytjaeoaebkkmaaaa
