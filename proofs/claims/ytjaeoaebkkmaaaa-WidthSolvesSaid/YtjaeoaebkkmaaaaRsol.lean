/- The walk of the document's Solve (printed by gen_rsol.py). -/
import Derived.Test.YtjaeoaebkkmaaaaSv
namespace Go.Proofs.Ytjaeoaebkkmaaaa
open Go Go.RowKit
set_option linter.unusedSimpArgs false
theorem info64 : (Try.prog.info? 3).map (fun i => (i.zero, i.size, i.bytes)) = some (some (.int .i64 0), 1, 8) := by kernel_rfl
theorem Own.fresh_ (w : World) (base e : Nat) (cs : List Value) (hb : base ≤ w.heap.size) (hm : cs.length ≤ 9223372036854775807) : Own (w.alloc (.cells cs.toArray e)) base e 1 (some ⟨w.heap.size, 0, none⟩) cs.length cs.length cs :=
  ⟨by simp, Nat.le_refl _, by unfold maxLen; omega, .inr ⟨w.heap.size, _, rfl, hb, heap_alloc_new w _, by simp, by simp [List.take_of_length_le]⟩⟩
theorem six_ok {of : Int} {a : Ask} (h : askedV of a = 0) : (six of a ++ (if a.is = true then [a.wd] else [])).any far = false := by
  unfold askedV at h
  split at h
  · omega
  · split at h
    · omega
    · rename_i h2
      rw [List.any_append]
      have h3 : (six of a).any far = false := by
        cases hf : (six of a).any far with
        | false => rfl
        | true => exact absurd (.inl hf) h2
      rw [h3]
      split
      · rename_i hi
        cases hf : far a.wd with
        | false => simp [hf]
        | true => exact absurd (.inr ⟨hi, hf⟩) h2
      · rfl
theorem rallN (xs : List Int) (n : Nat) (hn : n = xs.length) (hs : n ≤ 1000000) (hb : ∀ x ∈ xs, I64 x) (w : World) (e : TypeId) (B : Nat) (hB : B = w.heap.size) (cs : Array Value) (hc : cs = (xs.map num).toArray) :
    Calls Try.prog 20 #[.slice (some ⟨B, 0, none⟩) n n] (w.alloc (.cells cs e)) fun e' w' => e' = .returned (.bool !(xs.any far)) ∧ w.alloc (.cells cs e) = w' := by
  subst hB hc hn
  exact rall_any _ _ _ xs _ _ rfl (Reads.fresh_ w e (xs.map num)) hb hs
theorem Reads.fresh2_ (w : World) (e : TypeId) (cs : List Value) (zs : Array Value) : Reads (w.alloc (.cells (cs.toArray ++ zs) e)).drew (w.heap.size + 1) (some ⟨w.heap.size, 0, none⟩) cs := fun _ =>
  ⟨_, rfl, by simp, fun j u hu => by
    have : (⟨w.heap.size, 0, none⟩ : Addr).add j = ⟨w.heap.size, j, none⟩ := by unfold Addr.add; split <;> simp_all
    show (w.alloc _).cell? _ = _
    rw [this, cell_of_row _ _ _ _ _ _ (heap_alloc_new w _), Array.getElem?_append_left (by simpa using (List.getElem?_eq_some_iff.1 hu).1), List.getElem?_toArray, hu]⟩
theorem rall6 (a b c d f g : Int) (w : World) (h1 : I64 a) (h2 : I64 b) (h3 : I64 c) (h4 : I64 d) (h5 : I64 f) (h6 : I64 g) (q : Bool) (h : [a, b, c, d, f, g].any far = q) (e : TypeId) (B : Nat) (hB : B = w.heap.size) :
    Calls Try.prog 20 #[.slice (some ⟨B, 0, none⟩) 6 6] (w.alloc (.cells #[.int .i64 a, .int .i64 b, .int .i64 c, .int .i64 d, .int .i64 f, .int .i64 g] e)) fun e' w' => e' = .returned (.bool !q) ∧ w.alloc (.cells #[.int .i64 a, .int .i64 b, .int .i64 c, .int .i64 d, .int .i64 f, .int .i64 g] e) = w' :=
  (rallN [a, b, c, d, f, g] 6 rfl (by omega) (by simp; exact ⟨h1, h2, h3, h4, h5, h6⟩) w e B hB _ rfl).mono fun _ _ ⟨k1, k2⟩ => ⟨by rw [k1, h], k2⟩
theorem rall7 (a b c d f g x : Int) (cp : Nat) (w : World) (h1 : I64 a) (h2 : I64 b) (h3 : I64 c) (h4 : I64 d) (h5 : I64 f) (h6 : I64 g) (h7 : I64 x) (q : Bool) (h : [a, b, c, d, f, g, x].any far = q) (e : TypeId) (B : Nat) (hB : B = w.heap.size) (zs : Array Value) :
    Calls Try.prog 20 #[.slice (some ⟨B, 0, none⟩) 7 cp] (w.alloc (.cells (#[.int .i64 a, .int .i64 b, .int .i64 c, .int .i64 d, .int .i64 f, .int .i64 g, .int .i64 x] ++ zs) e)).drew fun e' w' => e' = .returned (.bool !q) ∧ (w.alloc (.cells (#[.int .i64 a, .int .i64 b, .int .i64 c, .int .i64 d, .int .i64 f, .int .i64 g, .int .i64 x] ++ zs) e)).drew = w' := by
  subst hB
  exact (rall_any (some ⟨w.heap.size, 0, none⟩) 7 cp [a, b, c, d, f, g, x] _ _ rfl (Reads.fresh2_ w e ([a, b, c, d, f, g, x].map num) zs) (by simp; exact ⟨h1, h2, h3, h4, h5, h6, h7⟩) (by omega)).mono fun _ _ ⟨k1, k2⟩ => ⟨by rw [k1, h], k2⟩
theorem rall3 (x y z : Int) (w : World) (hx : I64 x) (hy : I64 y) (hz : I64 z) (e : TypeId) (B : Nat) (hB : B = w.heap.size) :
    Calls Try.prog 20 #[.slice (some ⟨B, 0, none⟩) 3 3] (w.alloc (.cells #[.int .i64 x, .int .i64 y, .int .i64 z] e)) fun e' w' => ∃ b, e' = .returned (.bool !b) ∧ [x, y, z].any far = b ∧ w.alloc (.cells #[.int .i64 x, .int .i64 y, .int .i64 z] e) = w' :=
  (rallN [x, y, z] 3 rfl (by omega) (by simp; exact ⟨hx, hy, hz⟩) w e B hB _ rfl).mono fun _ _ ⟨h1, h2⟩ => ⟨_, h1, rfl, h2⟩
theorem rall3d (x y z : Int) (w : World) (hx : I64 x) (hy : I64 y) (hz : I64 z) (e : TypeId) (B : Nat) (hB : B = w.heap.size) :
    Calls Try.prog 20 #[.slice (some ⟨B, 0, none⟩) 3 3] (w.alloc (.cells #[.int .i64 x, .int .i64 y, .int .i64 z] e)).drew fun e' w' => ∃ b, e' = .returned (.bool !b) ∧ [x, y, z].any far = b ∧ (w.alloc (.cells #[.int .i64 x, .int .i64 y, .int .i64 z] e)).drew = w' := by
  subst hB
  exact (rall_any (some ⟨w.heap.size, 0, none⟩) 3 3 [x, y, z] (w.alloc (.cells #[.int .i64 x, .int .i64 y, .int .i64 z] e)).drew (w.heap.size + 1) rfl (Reads.fresh_ w e ([x, y, z].map num)) (by simp; exact ⟨hx, hy, hz⟩) (by omega)).mono fun _ _ ⟨h1, h2⟩ => ⟨_, h1, rfl, h2⟩
set_option maxHeartbeats 1000000 in
theorem rsolve_ttt (of : Int) (wd least most left right edges : Int) (w : World) (h0 : askedV of (Ask.mk true wd least most left right true true edges) = 0) (_hw1 : -9223372036854775808 ≤ wd) (_hw2 : wd ≤ 9223372036854775807) :
    Calls Try.prog 11 #[.int .i64 of, (Ask.mk true wd least most left right true true edges).val] w fun e w' => e = .returned (solveV of (Ask.mk true wd least most left right true true edges)).val ∧ w.grownBy w' none := by
  have hz := asked_zero h0
  simp only [true_implies] at hz
  obtain ⟨g1, g2, g3, g4, g5, g6, g7⟩ := hz
  have hs := six_ok h0
  have h0' := Lib.hid h0
  clear h0
  unfold Ask.val six at *
  simp only at hs
  simp only [if_true, if_false, Bool.false_eq_true, List.append_nil, List.cons_append, List.nil_append] at hs
  have CA := Lib.hid (fun c W e B hB zs => rall7 of least most left right edges wd c W (by unfold I64; omega) (by unfold I64; omega) (by unfold I64; omega) (by unfold I64; omega) (by unfold I64; omega) (by unfold I64; omega) (by unfold I64; omega) _ hs e B hB zs)
  clear hs
  go_enter Try.func11, Try.ntmps11
  go_wp2_with fail
  refine (CA.out _ _ _ _ (by simp) _).mono ?_; rintro e w1 ⟨rfl, rfl⟩
  go_wp2_with fail
  all_goals
    refine (rclampW _ _ _ _ (by unfold I64; omega) (by unfold I64; omega) (by unfold I64; omega)).mono ?_; rintro e w2 ⟨r, rfl, hr, rfl⟩
    have hrb : 0 ≤ r ∧ r ≤ 1099511627776 := by omega
    have hw : widt of (Ask.mk true wd least most left right true true edges) = r := by simp only [widt, asks, lef, rig, Bool.false_eq_true, Bool.true_eq_false, eq_self, if_false, if_true, and_true, and_false, true_and, false_and, or_true, or_false, true_or, false_or]; omega
    have hw' := Lib.hid hw; clear hr hw
    go_wp2_with fail
    all_goals
      refine (rall3d _ _ _ _ (by unfold I64; omega) (by unfold I64; omega) (by unfold I64; omega) _ _ (by simp)).mono ?_; rintro e w3 ⟨b, rfl, hb, rfl⟩
      have hb' := Lib.hid hb; clear hb
      cases b
      all_goals
        go_wp2_with fail
        (try simp only [Exit.inBlock, Exit.then])
        refine bodyPost_ret (results_tmp4 rfl _ _ _) rfl ?_
      · exact ⟨end_ok h0'.out hb'.out (by have hw := hw'.out; simp only [lef2, rig2, free, hw, lef, rig, Bool.false_eq_true, Bool.true_eq_false, eq_self, if_false, if_true, and_true, and_false, true_and, false_and, or_true, or_false, true_or, false_or]; all_goals ((repeat' split) <;> omega)) hw'.out.symm (by have hw := hw'.out; simp only [lef2, rig2, free, hw, lef, rig, Bool.false_eq_true, Bool.true_eq_false, eq_self, if_false, if_true, and_true, and_false, true_and, false_and, or_true, or_false, true_or, false_or]; all_goals ((repeat' split) <;> omega)), grown_drew (grown_trans (World.grownBy_alloc _ _ _) (grown_trans (World.grownBy_alloc _ _ _) (grown_trans (World.grownBy_alloc _ _ _) (grown_trans (World.grownBy_alloc _ _ _) (World.grownBy_alloc _ _ _)))))⟩
      · exact ⟨end_far h0'.out hb'.out (by have hw := hw'.out; simp only [lef2, rig2, free, hw, lef, rig, Bool.false_eq_true, Bool.true_eq_false, eq_self, if_false, if_true, and_true, and_false, true_and, false_and, or_true, or_false, true_or, false_or]; all_goals ((repeat' split) <;> omega)) hw'.out.symm (by have hw := hw'.out; simp only [lef2, rig2, free, hw, lef, rig, Bool.false_eq_true, Bool.true_eq_false, eq_self, if_false, if_true, and_true, and_false, true_and, false_and, or_true, or_false, true_or, false_or]; all_goals ((repeat' split) <;> omega)), grown_drew (grown_trans (World.grownBy_alloc _ _ _) (grown_trans (World.grownBy_alloc _ _ _) (grown_trans (World.grownBy_alloc _ _ _) (grown_trans (World.grownBy_alloc _ _ _) (World.grownBy_alloc _ _ _)))))⟩

set_option maxHeartbeats 1000000 in
theorem rsolve_ttf (of : Int) (wd least most left right edges : Int) (w : World) (h0 : askedV of (Ask.mk true wd least most left right true false edges) = 0) (_hw1 : -9223372036854775808 ≤ wd) (_hw2 : wd ≤ 9223372036854775807) :
    Calls Try.prog 11 #[.int .i64 of, (Ask.mk true wd least most left right true false edges).val] w fun e w' => e = .returned (solveV of (Ask.mk true wd least most left right true false edges)).val ∧ w.grownBy w' none := by
  have hz := asked_zero h0
  simp only [true_implies] at hz
  obtain ⟨g1, g2, g3, g4, g5, g6, g7⟩ := hz
  have hs := six_ok h0
  have h0' := Lib.hid h0
  clear h0
  unfold Ask.val six at *
  simp only at hs
  simp only [if_true, if_false, Bool.false_eq_true, List.append_nil, List.cons_append, List.nil_append] at hs
  have CA := Lib.hid (fun c W e B hB zs => rall7 of least most left right edges wd c W (by unfold I64; omega) (by unfold I64; omega) (by unfold I64; omega) (by unfold I64; omega) (by unfold I64; omega) (by unfold I64; omega) (by unfold I64; omega) _ hs e B hB zs)
  clear hs
  go_enter Try.func11, Try.ntmps11
  go_wp2_with fail
  refine (CA.out _ _ _ _ (by simp) _).mono ?_; rintro e w1 ⟨rfl, rfl⟩
  go_wp2_with fail
  all_goals
    refine (rclampW _ _ _ _ (by unfold I64; omega) (by unfold I64; omega) (by unfold I64; omega)).mono ?_; rintro e w2 ⟨r, rfl, hr, rfl⟩
    have hrb : 0 ≤ r ∧ r ≤ 1099511627776 := by omega
    have hw : widt of (Ask.mk true wd least most left right true false edges) = r := by simp only [widt, asks, lef, rig, Bool.false_eq_true, Bool.true_eq_false, eq_self, if_false, if_true, and_true, and_false, true_and, false_and, or_true, or_false, true_or, false_or]; omega
    have hw' := Lib.hid hw; clear hr hw
    go_wp2_with fail
    all_goals
      refine (rall3d _ _ _ _ (by unfold I64; omega) (by unfold I64; omega) (by unfold I64; omega) _ _ (by simp)).mono ?_; rintro e w3 ⟨b, rfl, hb, rfl⟩
      have hb' := Lib.hid hb; clear hb
      cases b
      all_goals
        go_wp2_with fail
        (try simp only [Exit.inBlock, Exit.then])
        refine bodyPost_ret (results_tmp4 rfl _ _ _) rfl ?_
      · exact ⟨end_ok h0'.out hb'.out (by have hw := hw'.out; simp only [lef2, rig2, free, hw, lef, rig, Bool.false_eq_true, Bool.true_eq_false, eq_self, if_false, if_true, and_true, and_false, true_and, false_and, or_true, or_false, true_or, false_or]; all_goals ((repeat' split) <;> omega)) hw'.out.symm (by have hw := hw'.out; simp only [lef2, rig2, free, hw, lef, rig, Bool.false_eq_true, Bool.true_eq_false, eq_self, if_false, if_true, and_true, and_false, true_and, false_and, or_true, or_false, true_or, false_or]; all_goals ((repeat' split) <;> omega)), grown_drew (grown_trans (World.grownBy_alloc _ _ _) (grown_trans (World.grownBy_alloc _ _ _) (grown_trans (World.grownBy_alloc _ _ _) (grown_trans (World.grownBy_alloc _ _ _) (World.grownBy_alloc _ _ _)))))⟩
      · exact ⟨end_far h0'.out hb'.out (by have hw := hw'.out; simp only [lef2, rig2, free, hw, lef, rig, Bool.false_eq_true, Bool.true_eq_false, eq_self, if_false, if_true, and_true, and_false, true_and, false_and, or_true, or_false, true_or, false_or]; all_goals ((repeat' split) <;> omega)) hw'.out.symm (by have hw := hw'.out; simp only [lef2, rig2, free, hw, lef, rig, Bool.false_eq_true, Bool.true_eq_false, eq_self, if_false, if_true, and_true, and_false, true_and, false_and, or_true, or_false, true_or, false_or]; all_goals ((repeat' split) <;> omega)), grown_drew (grown_trans (World.grownBy_alloc _ _ _) (grown_trans (World.grownBy_alloc _ _ _) (grown_trans (World.grownBy_alloc _ _ _) (grown_trans (World.grownBy_alloc _ _ _) (World.grownBy_alloc _ _ _)))))⟩

set_option maxHeartbeats 1000000 in
theorem rsolve_tft (of : Int) (wd least most left right edges : Int) (w : World) (h0 : askedV of (Ask.mk true wd least most left right false true edges) = 0) (_hw1 : -9223372036854775808 ≤ wd) (_hw2 : wd ≤ 9223372036854775807) :
    Calls Try.prog 11 #[.int .i64 of, (Ask.mk true wd least most left right false true edges).val] w fun e w' => e = .returned (solveV of (Ask.mk true wd least most left right false true edges)).val ∧ w.grownBy w' none := by
  have hz := asked_zero h0
  simp only [true_implies] at hz
  obtain ⟨g1, g2, g3, g4, g5, g6, g7⟩ := hz
  have hs := six_ok h0
  have h0' := Lib.hid h0
  clear h0
  unfold Ask.val six at *
  simp only at hs
  simp only [if_true, if_false, Bool.false_eq_true, List.append_nil, List.cons_append, List.nil_append] at hs
  have CA := Lib.hid (fun c W e B hB zs => rall7 of least most left right edges wd c W (by unfold I64; omega) (by unfold I64; omega) (by unfold I64; omega) (by unfold I64; omega) (by unfold I64; omega) (by unfold I64; omega) (by unfold I64; omega) _ hs e B hB zs)
  clear hs
  go_enter Try.func11, Try.ntmps11
  go_wp2_with fail
  refine (CA.out _ _ _ _ (by simp) _).mono ?_; rintro e w1 ⟨rfl, rfl⟩
  go_wp2_with fail
  all_goals
    refine (rclampW _ _ _ _ (by unfold I64; omega) (by unfold I64; omega) (by unfold I64; omega)).mono ?_; rintro e w2 ⟨r, rfl, hr, rfl⟩
    have hrb : 0 ≤ r ∧ r ≤ 1099511627776 := by omega
    have hw : widt of (Ask.mk true wd least most left right false true edges) = r := by simp only [widt, asks, lef, rig, Bool.false_eq_true, Bool.true_eq_false, eq_self, if_false, if_true, and_true, and_false, true_and, false_and, or_true, or_false, true_or, false_or]; omega
    have hw' := Lib.hid hw; clear hr hw
    go_wp2_with fail
    all_goals
      refine (rall3d _ _ _ _ (by unfold I64; omega) (by unfold I64; omega) (by unfold I64; omega) _ _ (by simp)).mono ?_; rintro e w3 ⟨b, rfl, hb, rfl⟩
      have hb' := Lib.hid hb; clear hb
      cases b
      all_goals
        go_wp2_with fail
        (try simp only [Exit.inBlock, Exit.then])
        refine bodyPost_ret (results_tmp4 rfl _ _ _) rfl ?_
      · exact ⟨end_ok h0'.out hb'.out (by have hw := hw'.out; simp only [lef2, rig2, free, hw, lef, rig, Bool.false_eq_true, Bool.true_eq_false, eq_self, if_false, if_true, and_true, and_false, true_and, false_and, or_true, or_false, true_or, false_or]; all_goals ((repeat' split) <;> omega)) hw'.out.symm (by have hw := hw'.out; simp only [lef2, rig2, free, hw, lef, rig, Bool.false_eq_true, Bool.true_eq_false, eq_self, if_false, if_true, and_true, and_false, true_and, false_and, or_true, or_false, true_or, false_or]; all_goals ((repeat' split) <;> omega)), grown_drew (grown_trans (World.grownBy_alloc _ _ _) (grown_trans (World.grownBy_alloc _ _ _) (grown_trans (World.grownBy_alloc _ _ _) (grown_trans (World.grownBy_alloc _ _ _) (World.grownBy_alloc _ _ _)))))⟩
      · exact ⟨end_far h0'.out hb'.out (by have hw := hw'.out; simp only [lef2, rig2, free, hw, lef, rig, Bool.false_eq_true, Bool.true_eq_false, eq_self, if_false, if_true, and_true, and_false, true_and, false_and, or_true, or_false, true_or, false_or]; all_goals ((repeat' split) <;> omega)) hw'.out.symm (by have hw := hw'.out; simp only [lef2, rig2, free, hw, lef, rig, Bool.false_eq_true, Bool.true_eq_false, eq_self, if_false, if_true, and_true, and_false, true_and, false_and, or_true, or_false, true_or, false_or]; all_goals ((repeat' split) <;> omega)), grown_drew (grown_trans (World.grownBy_alloc _ _ _) (grown_trans (World.grownBy_alloc _ _ _) (grown_trans (World.grownBy_alloc _ _ _) (grown_trans (World.grownBy_alloc _ _ _) (World.grownBy_alloc _ _ _)))))⟩

set_option maxHeartbeats 1000000 in
theorem rsolve_tff (of : Int) (wd least most left right edges : Int) (w : World) (h0 : askedV of (Ask.mk true wd least most left right false false edges) = 0) (_hw1 : -9223372036854775808 ≤ wd) (_hw2 : wd ≤ 9223372036854775807) :
    Calls Try.prog 11 #[.int .i64 of, (Ask.mk true wd least most left right false false edges).val] w fun e w' => e = .returned (solveV of (Ask.mk true wd least most left right false false edges)).val ∧ w.grownBy w' none := by
  have hz := asked_zero h0
  simp only [true_implies] at hz
  obtain ⟨g1, g2, g3, g4, g5, g6, g7⟩ := hz
  have hs := six_ok h0
  have h0' := Lib.hid h0
  clear h0
  unfold Ask.val six at *
  simp only at hs
  simp only [if_true, if_false, Bool.false_eq_true, List.append_nil, List.cons_append, List.nil_append] at hs
  have CA := Lib.hid (fun c W e B hB zs => rall7 of least most left right edges wd c W (by unfold I64; omega) (by unfold I64; omega) (by unfold I64; omega) (by unfold I64; omega) (by unfold I64; omega) (by unfold I64; omega) (by unfold I64; omega) _ hs e B hB zs)
  clear hs
  go_enter Try.func11, Try.ntmps11
  go_wp2_with fail
  refine (CA.out _ _ _ _ (by simp) _).mono ?_; rintro e w1 ⟨rfl, rfl⟩
  go_wp2_with fail
  all_goals
    refine (rclampW _ _ _ _ (by unfold I64; omega) (by unfold I64; omega) (by unfold I64; omega)).mono ?_; rintro e w2 ⟨r, rfl, hr, rfl⟩
    have hrb : 0 ≤ r ∧ r ≤ 1099511627776 := by omega
    have hw : widt of (Ask.mk true wd least most left right false false edges) = r := by simp only [widt, asks, lef, rig, Bool.false_eq_true, Bool.true_eq_false, eq_self, if_false, if_true, and_true, and_false, true_and, false_and, or_true, or_false, true_or, false_or]; omega
    have hw' := Lib.hid hw; clear hr hw
    go_wp2_with fail
    all_goals
      refine (rall3d _ _ _ _ (by unfold I64; omega) (by unfold I64; omega) (by unfold I64; omega) _ _ (by simp)).mono ?_; rintro e w3 ⟨b, rfl, hb, rfl⟩
      have hb' := Lib.hid hb; clear hb
      cases b
      all_goals
        go_wp2_with fail
        (try simp only [Exit.inBlock, Exit.then])
        refine bodyPost_ret (results_tmp4 rfl _ _ _) rfl ?_
      · exact ⟨end_ok h0'.out hb'.out (by have hw := hw'.out; simp only [lef2, rig2, free, hw, lef, rig, Bool.false_eq_true, Bool.true_eq_false, eq_self, if_false, if_true, and_true, and_false, true_and, false_and, or_true, or_false, true_or, false_or]; all_goals ((repeat' split) <;> omega)) hw'.out.symm (by have hw := hw'.out; simp only [lef2, rig2, free, hw, lef, rig, Bool.false_eq_true, Bool.true_eq_false, eq_self, if_false, if_true, and_true, and_false, true_and, false_and, or_true, or_false, true_or, false_or]; all_goals ((repeat' split) <;> omega)), grown_drew (grown_trans (World.grownBy_alloc _ _ _) (grown_trans (World.grownBy_alloc _ _ _) (grown_trans (World.grownBy_alloc _ _ _) (grown_trans (World.grownBy_alloc _ _ _) (World.grownBy_alloc _ _ _)))))⟩
      · exact ⟨end_far h0'.out hb'.out (by have hw := hw'.out; simp only [lef2, rig2, free, hw, lef, rig, Bool.false_eq_true, Bool.true_eq_false, eq_self, if_false, if_true, and_true, and_false, true_and, false_and, or_true, or_false, true_or, false_or]; all_goals ((repeat' split) <;> omega)) hw'.out.symm (by have hw := hw'.out; simp only [lef2, rig2, free, hw, lef, rig, Bool.false_eq_true, Bool.true_eq_false, eq_self, if_false, if_true, and_true, and_false, true_and, false_and, or_true, or_false, true_or, false_or]; all_goals ((repeat' split) <;> omega)), grown_drew (grown_trans (World.grownBy_alloc _ _ _) (grown_trans (World.grownBy_alloc _ _ _) (grown_trans (World.grownBy_alloc _ _ _) (grown_trans (World.grownBy_alloc _ _ _) (World.grownBy_alloc _ _ _)))))⟩

set_option maxHeartbeats 1000000 in
theorem rsolve_ftt (of : Int) (wd least most left right edges : Int) (w : World) (h0 : askedV of (Ask.mk false wd least most left right true true edges) = 0) (_hw1 : -9223372036854775808 ≤ wd) (_hw2 : wd ≤ 9223372036854775807) :
    Calls Try.prog 11 #[.int .i64 of, (Ask.mk false wd least most left right true true edges).val] w fun e w' => e = .returned (solveV of (Ask.mk false wd least most left right true true edges)).val ∧ w.grownBy w' none := by
  have hz := asked_zero h0
  simp only [Bool.false_eq_true, false_implies] at hz
  obtain ⟨g1, g2, g3, g4, g5, g6, g7⟩ := hz
  have hs := six_ok h0
  have h0' := Lib.hid h0
  clear h0
  unfold Ask.val six at *
  simp only at hs
  simp only [if_true, if_false, Bool.false_eq_true, List.append_nil, List.cons_append, List.nil_append] at hs
  have CA := Lib.hid (fun W e B hB => rall6 of least most left right edges W (by unfold I64; omega) (by unfold I64; omega) (by unfold I64; omega) (by unfold I64; omega) (by unfold I64; omega) (by unfold I64; omega) _ hs e B hB)
  clear hs
  go_enter Try.func11, Try.ntmps11
  go_wp2_with fail
  refine (CA.out _ _ _ (by simp)).mono ?_; rintro e w1 ⟨rfl, rfl⟩
  go_wp2_with fail
  all_goals
    refine (rclampW _ _ _ _ (by unfold I64; omega) (by unfold I64; omega) (by unfold I64; omega)).mono ?_; rintro e w2 ⟨r, rfl, hr, rfl⟩
    have hrb : 0 ≤ r ∧ r ≤ 1099511627776 := by omega
    have hw : widt of (Ask.mk false wd least most left right true true edges) = r := by simp only [widt, asks, lef, rig, Bool.false_eq_true, Bool.true_eq_false, eq_self, if_false, if_true, and_true, and_false, true_and, false_and, or_true, or_false, true_or, false_or]; omega
    have hw' := Lib.hid hw; clear hr hw
    go_wp2_with fail
    all_goals
      refine (rall3 _ _ _ _ (by unfold I64; omega) (by unfold I64; omega) (by unfold I64; omega) _ _ (by simp)).mono ?_; rintro e w3 ⟨b, rfl, hb, rfl⟩
      have hb' := Lib.hid hb; clear hb
      cases b
      all_goals
        go_wp2_with fail
        (try simp only [Exit.inBlock, Exit.then])
        refine bodyPost_ret (results_tmp4 rfl _ _ _) rfl ?_
      · exact ⟨end_ok h0'.out hb'.out (by have hw := hw'.out; simp only [lef2, rig2, free, hw, lef, rig, Bool.false_eq_true, Bool.true_eq_false, eq_self, if_false, if_true, and_true, and_false, true_and, false_and, or_true, or_false, true_or, false_or]; all_goals ((repeat' split) <;> omega)) hw'.out.symm (by have hw := hw'.out; simp only [lef2, rig2, free, hw, lef, rig, Bool.false_eq_true, Bool.true_eq_false, eq_self, if_false, if_true, and_true, and_false, true_and, false_and, or_true, or_false, true_or, false_or]; all_goals ((repeat' split) <;> omega)), (grown_trans (World.grownBy_alloc _ _ _) (grown_trans (World.grownBy_alloc _ _ _) (World.grownBy_alloc _ _ _)))⟩
      · exact ⟨end_far h0'.out hb'.out (by have hw := hw'.out; simp only [lef2, rig2, free, hw, lef, rig, Bool.false_eq_true, Bool.true_eq_false, eq_self, if_false, if_true, and_true, and_false, true_and, false_and, or_true, or_false, true_or, false_or]; all_goals ((repeat' split) <;> omega)) hw'.out.symm (by have hw := hw'.out; simp only [lef2, rig2, free, hw, lef, rig, Bool.false_eq_true, Bool.true_eq_false, eq_self, if_false, if_true, and_true, and_false, true_and, false_and, or_true, or_false, true_or, false_or]; all_goals ((repeat' split) <;> omega)), (grown_trans (World.grownBy_alloc _ _ _) (grown_trans (World.grownBy_alloc _ _ _) (World.grownBy_alloc _ _ _)))⟩

set_option maxHeartbeats 1000000 in
theorem rsolve_ftf (of : Int) (wd least most left right edges : Int) (w : World) (h0 : askedV of (Ask.mk false wd least most left right true false edges) = 0) (_hw1 : -9223372036854775808 ≤ wd) (_hw2 : wd ≤ 9223372036854775807) :
    Calls Try.prog 11 #[.int .i64 of, (Ask.mk false wd least most left right true false edges).val] w fun e w' => e = .returned (solveV of (Ask.mk false wd least most left right true false edges)).val ∧ w.grownBy w' none := by
  have hz := asked_zero h0
  simp only [Bool.false_eq_true, false_implies] at hz
  obtain ⟨g1, g2, g3, g4, g5, g6, g7⟩ := hz
  have hs := six_ok h0
  have h0' := Lib.hid h0
  clear h0
  unfold Ask.val six at *
  simp only at hs
  simp only [if_true, if_false, Bool.false_eq_true, List.append_nil, List.cons_append, List.nil_append] at hs
  have CA := Lib.hid (fun W e B hB => rall6 of least most left right edges W (by unfold I64; omega) (by unfold I64; omega) (by unfold I64; omega) (by unfold I64; omega) (by unfold I64; omega) (by unfold I64; omega) _ hs e B hB)
  clear hs
  go_enter Try.func11, Try.ntmps11
  go_wp2_with fail
  refine (CA.out _ _ _ (by simp)).mono ?_; rintro e w1 ⟨rfl, rfl⟩
  go_wp2_with fail
  all_goals
    refine (rclampW _ _ _ _ (by unfold I64; omega) (by unfold I64; omega) (by unfold I64; omega)).mono ?_; rintro e w2 ⟨r, rfl, hr, rfl⟩
    have hrb : 0 ≤ r ∧ r ≤ 1099511627776 := by omega
    have hw : widt of (Ask.mk false wd least most left right true false edges) = r := by simp only [widt, asks, lef, rig, Bool.false_eq_true, Bool.true_eq_false, eq_self, if_false, if_true, and_true, and_false, true_and, false_and, or_true, or_false, true_or, false_or]; omega
    have hw' := Lib.hid hw; clear hr hw
    go_wp2_with fail
    all_goals
      refine (rall3 _ _ _ _ (by unfold I64; omega) (by unfold I64; omega) (by unfold I64; omega) _ _ (by simp)).mono ?_; rintro e w3 ⟨b, rfl, hb, rfl⟩
      have hb' := Lib.hid hb; clear hb
      cases b
      all_goals
        go_wp2_with fail
        (try simp only [Exit.inBlock, Exit.then])
        refine bodyPost_ret (results_tmp4 rfl _ _ _) rfl ?_
      · exact ⟨end_ok h0'.out hb'.out (by have hw := hw'.out; simp only [lef2, rig2, free, hw, lef, rig, Bool.false_eq_true, Bool.true_eq_false, eq_self, if_false, if_true, and_true, and_false, true_and, false_and, or_true, or_false, true_or, false_or]; all_goals ((repeat' split) <;> omega)) hw'.out.symm (by have hw := hw'.out; simp only [lef2, rig2, free, hw, lef, rig, Bool.false_eq_true, Bool.true_eq_false, eq_self, if_false, if_true, and_true, and_false, true_and, false_and, or_true, or_false, true_or, false_or]; all_goals ((repeat' split) <;> omega)), (grown_trans (World.grownBy_alloc _ _ _) (grown_trans (World.grownBy_alloc _ _ _) (World.grownBy_alloc _ _ _)))⟩
      · exact ⟨end_far h0'.out hb'.out (by have hw := hw'.out; simp only [lef2, rig2, free, hw, lef, rig, Bool.false_eq_true, Bool.true_eq_false, eq_self, if_false, if_true, and_true, and_false, true_and, false_and, or_true, or_false, true_or, false_or]; all_goals ((repeat' split) <;> omega)) hw'.out.symm (by have hw := hw'.out; simp only [lef2, rig2, free, hw, lef, rig, Bool.false_eq_true, Bool.true_eq_false, eq_self, if_false, if_true, and_true, and_false, true_and, false_and, or_true, or_false, true_or, false_or]; all_goals ((repeat' split) <;> omega)), (grown_trans (World.grownBy_alloc _ _ _) (grown_trans (World.grownBy_alloc _ _ _) (World.grownBy_alloc _ _ _)))⟩

set_option maxHeartbeats 1000000 in
theorem rsolve_fft (of : Int) (wd least most left right edges : Int) (w : World) (h0 : askedV of (Ask.mk false wd least most left right false true edges) = 0) (_hw1 : -9223372036854775808 ≤ wd) (_hw2 : wd ≤ 9223372036854775807) :
    Calls Try.prog 11 #[.int .i64 of, (Ask.mk false wd least most left right false true edges).val] w fun e w' => e = .returned (solveV of (Ask.mk false wd least most left right false true edges)).val ∧ w.grownBy w' none := by
  have hz := asked_zero h0
  simp only [Bool.false_eq_true, false_implies] at hz
  obtain ⟨g1, g2, g3, g4, g5, g6, g7⟩ := hz
  have hs := six_ok h0
  have h0' := Lib.hid h0
  clear h0
  unfold Ask.val six at *
  simp only at hs
  simp only [if_true, if_false, Bool.false_eq_true, List.append_nil, List.cons_append, List.nil_append] at hs
  have CA := Lib.hid (fun W e B hB => rall6 of least most left right edges W (by unfold I64; omega) (by unfold I64; omega) (by unfold I64; omega) (by unfold I64; omega) (by unfold I64; omega) (by unfold I64; omega) _ hs e B hB)
  clear hs
  go_enter Try.func11, Try.ntmps11
  go_wp2_with fail
  refine (CA.out _ _ _ (by simp)).mono ?_; rintro e w1 ⟨rfl, rfl⟩
  go_wp2_with fail
  all_goals
    refine (rclampW _ _ _ _ (by unfold I64; omega) (by unfold I64; omega) (by unfold I64; omega)).mono ?_; rintro e w2 ⟨r, rfl, hr, rfl⟩
    have hrb : 0 ≤ r ∧ r ≤ 1099511627776 := by omega
    have hw : widt of (Ask.mk false wd least most left right false true edges) = r := by simp only [widt, asks, lef, rig, Bool.false_eq_true, Bool.true_eq_false, eq_self, if_false, if_true, and_true, and_false, true_and, false_and, or_true, or_false, true_or, false_or]; omega
    have hw' := Lib.hid hw; clear hr hw
    go_wp2_with fail
    all_goals
      refine (rall3 _ _ _ _ (by unfold I64; omega) (by unfold I64; omega) (by unfold I64; omega) _ _ (by simp)).mono ?_; rintro e w3 ⟨b, rfl, hb, rfl⟩
      have hb' := Lib.hid hb; clear hb
      cases b
      all_goals
        go_wp2_with fail
        (try simp only [Exit.inBlock, Exit.then])
        refine bodyPost_ret (results_tmp4 rfl _ _ _) rfl ?_
      · exact ⟨end_ok h0'.out hb'.out (by have hw := hw'.out; simp only [lef2, rig2, free, hw, lef, rig, Bool.false_eq_true, Bool.true_eq_false, eq_self, if_false, if_true, and_true, and_false, true_and, false_and, or_true, or_false, true_or, false_or]; all_goals ((repeat' split) <;> omega)) hw'.out.symm (by have hw := hw'.out; simp only [lef2, rig2, free, hw, lef, rig, Bool.false_eq_true, Bool.true_eq_false, eq_self, if_false, if_true, and_true, and_false, true_and, false_and, or_true, or_false, true_or, false_or]; all_goals ((repeat' split) <;> omega)), (grown_trans (World.grownBy_alloc _ _ _) (grown_trans (World.grownBy_alloc _ _ _) (World.grownBy_alloc _ _ _)))⟩
      · exact ⟨end_far h0'.out hb'.out (by have hw := hw'.out; simp only [lef2, rig2, free, hw, lef, rig, Bool.false_eq_true, Bool.true_eq_false, eq_self, if_false, if_true, and_true, and_false, true_and, false_and, or_true, or_false, true_or, false_or]; all_goals ((repeat' split) <;> omega)) hw'.out.symm (by have hw := hw'.out; simp only [lef2, rig2, free, hw, lef, rig, Bool.false_eq_true, Bool.true_eq_false, eq_self, if_false, if_true, and_true, and_false, true_and, false_and, or_true, or_false, true_or, false_or]; all_goals ((repeat' split) <;> omega)), (grown_trans (World.grownBy_alloc _ _ _) (grown_trans (World.grownBy_alloc _ _ _) (World.grownBy_alloc _ _ _)))⟩

set_option maxHeartbeats 1000000 in
theorem rsolve_fff (of : Int) (wd least most left right edges : Int) (w : World) (h0 : askedV of (Ask.mk false wd least most left right false false edges) = 0) (_hw1 : -9223372036854775808 ≤ wd) (_hw2 : wd ≤ 9223372036854775807) :
    Calls Try.prog 11 #[.int .i64 of, (Ask.mk false wd least most left right false false edges).val] w fun e w' => e = .returned (solveV of (Ask.mk false wd least most left right false false edges)).val ∧ w.grownBy w' none := by
  have hz := asked_zero h0
  simp only [Bool.false_eq_true, false_implies] at hz
  obtain ⟨g1, g2, g3, g4, g5, g6, g7⟩ := hz
  have hs := six_ok h0
  have h0' := Lib.hid h0
  clear h0
  unfold Ask.val six at *
  simp only at hs
  simp only [if_true, if_false, Bool.false_eq_true, List.append_nil, List.cons_append, List.nil_append] at hs
  have CA := Lib.hid (fun W e B hB => rall6 of least most left right edges W (by unfold I64; omega) (by unfold I64; omega) (by unfold I64; omega) (by unfold I64; omega) (by unfold I64; omega) (by unfold I64; omega) _ hs e B hB)
  clear hs
  go_enter Try.func11, Try.ntmps11
  go_wp2_with fail
  refine (CA.out _ _ _ (by simp)).mono ?_; rintro e w1 ⟨rfl, rfl⟩
  go_wp2_with fail
  all_goals
    refine (rclampW _ _ _ _ (by unfold I64; omega) (by unfold I64; omega) (by unfold I64; omega)).mono ?_; rintro e w2 ⟨r, rfl, hr, rfl⟩
    have hrb : 0 ≤ r ∧ r ≤ 1099511627776 := by omega
    have hw : widt of (Ask.mk false wd least most left right false false edges) = r := by simp only [widt, asks, lef, rig, Bool.false_eq_true, Bool.true_eq_false, eq_self, if_false, if_true, and_true, and_false, true_and, false_and, or_true, or_false, true_or, false_or]; omega
    have hw' := Lib.hid hw; clear hr hw
    go_wp2_with fail
    all_goals
      refine (rall3 _ _ _ _ (by unfold I64; omega) (by unfold I64; omega) (by unfold I64; omega) _ _ (by simp)).mono ?_; rintro e w3 ⟨b, rfl, hb, rfl⟩
      have hb' := Lib.hid hb; clear hb
      cases b
      all_goals
        go_wp2_with fail
        (try simp only [Exit.inBlock, Exit.then])
        refine bodyPost_ret (results_tmp4 rfl _ _ _) rfl ?_
      · exact ⟨end_ok h0'.out hb'.out (by have hw := hw'.out; simp only [lef2, rig2, free, hw, lef, rig, Bool.false_eq_true, Bool.true_eq_false, eq_self, if_false, if_true, and_true, and_false, true_and, false_and, or_true, or_false, true_or, false_or]; all_goals ((repeat' split) <;> omega)) hw'.out.symm (by have hw := hw'.out; simp only [lef2, rig2, free, hw, lef, rig, Bool.false_eq_true, Bool.true_eq_false, eq_self, if_false, if_true, and_true, and_false, true_and, false_and, or_true, or_false, true_or, false_or]; all_goals ((repeat' split) <;> omega)), (grown_trans (World.grownBy_alloc _ _ _) (grown_trans (World.grownBy_alloc _ _ _) (World.grownBy_alloc _ _ _)))⟩
      · exact ⟨end_far h0'.out hb'.out (by have hw := hw'.out; simp only [lef2, rig2, free, hw, lef, rig, Bool.false_eq_true, Bool.true_eq_false, eq_self, if_false, if_true, and_true, and_false, true_and, false_and, or_true, or_false, true_or, false_or]; all_goals ((repeat' split) <;> omega)) hw'.out.symm (by have hw := hw'.out; simp only [lef2, rig2, free, hw, lef, rig, Bool.false_eq_true, Bool.true_eq_false, eq_self, if_false, if_true, and_true, and_false, true_and, false_and, or_true, or_false, true_or, false_or]; all_goals ((repeat' split) <;> omega)), (grown_trans (World.grownBy_alloc _ _ _) (grown_trans (World.grownBy_alloc _ _ _) (World.grownBy_alloc _ _ _)))⟩

theorem ten_far {of : Int} {a : Ask} (h : askedV of a = 10) : (six of a ++ (if a.is = true then [a.wd] else [])).any far = true ∧ 0 ≤ of ∧ 0 ≤ a.least ∧ 0 ≤ a.most ∧ 0 ≤ a.edges ∧ (a.is = true → 0 ≤ a.wd) := by
  unfold askedV at h
  split at h
  · omega
  · rename_i h1
    split at h
    · rename_i h2
      refine ⟨?_, by omega, by omega, by omega, by omega, fun hi => ?_⟩
      · rw [List.any_append]
        rcases h2 with h2 | ⟨h2, h3⟩
        · rw [h2]; rfl
        · rw [if_pos h2]; simp [h3]
      · have : ¬ a.wd < 0 := fun h => h1 (.inr (.inr (.inr (.inr ⟨hi, h⟩))))
        omega
    · omega
theorem two_neg {of : Int} {a : Ask} (h : askedV of a = 2) : of < 0 ∨ a.least < 0 ∨ a.most < 0 ∨ a.edges < 0 ∨ (a.is = true ∧ a.wd < 0) := by
  unfold askedV at h
  split at h
  · assumption
  · split at h <;> omega

set_option maxHeartbeats 1000000 in
theorem rsolve_ten (of : Int) (a : Ask) (w : World) (ho : I64 of) (ha : a.ok) (h0 : askedV of a = 10) :
    Calls Try.prog 11 #[.int .i64 of, a.val] w fun e w' => e = .returned (solveV of a).val ∧ w.grownBy w' none := by
  have hv := solve_bad (of := of) (a := a) (by omega)
  rw [h0] at hv
  obtain ⟨hs, g1, g2, g3, g4, g5⟩ := ten_far h0
  obtain ⟨is, wd, least, most, left, right, al, ar, edges⟩ := a
  obtain ⟨h1, h2, h3, h4, h5, h6⟩ := ha
  have hv' := Lib.hid hv; clear hv h0
  unfold Ask.val six at *
  simp only at hs h1 h2 h3 h4 h5 h6 g1 g2 g3 g4 g5
  cases is with
  | true =>
    simp only [if_true, List.cons_append, List.nil_append, true_implies] at hs g5
    have CA := Lib.hid (fun c W e B hB zs => rall7 of least most left right edges wd c W ho h2 h3 h4 h5 h6 h1 _ hs e B hB zs)
    clear hs
    unfold I64 at *
    go_enter Try.func11, Try.ntmps11
    go_wp2_with fail
    refine (CA.out _ _ _ _ (by simp) _).mono ?_; rintro e w1 ⟨rfl, rfl⟩
    go_wp2_with fail
    (try simp only [Exit.inBlock, Exit.then])
    refine bodyPost_ret (results_tmp4 rfl _ _ _) rfl ?_
    exact ⟨by rw [hv'.out]; rfl, grown_drew (grown_trans (World.grownBy_alloc _ _ _) (grown_trans (World.grownBy_alloc _ _ _) (grown_trans (World.grownBy_alloc _ _ _) (World.grownBy_alloc _ _ _))))⟩
  | false =>
    simp only [if_false, Bool.false_eq_true, List.append_nil] at hs
    have CA := Lib.hid (fun W e B hB => rall6 of least most left right edges W ho h2 h3 h4 h5 h6 _ hs e B hB)
    clear hs
    unfold I64 at *
    go_enter Try.func11, Try.ntmps11
    go_wp2_with fail
    refine (CA.out _ _ _ (by simp)).mono ?_; rintro e w1 ⟨rfl, rfl⟩
    go_wp2_with fail
    (try simp only [Exit.inBlock, Exit.then])
    refine bodyPost_ret (results_tmp4 rfl _ _ _) rfl ?_
    exact ⟨by rw [hv'.out]; rfl, grown_trans (World.grownBy_alloc _ _ _) (World.grownBy_alloc _ _ _)⟩

set_option maxHeartbeats 1000000 in
theorem rsolve_two (of : Int) (a : Ask) (w : World) (ho : I64 of) (ha : a.ok) (h0 : askedV of a = 2) :
    Calls Try.prog 11 #[.int .i64 of, a.val] w fun e w' => e = .returned (solveV of a).val ∧ w.grownBy w' none := by
  have hv := solve_bad (of := of) (a := a) (by omega)
  rw [h0] at hv
  have hn := two_neg h0
  obtain ⟨is, wd, least, most, left, right, al, ar, edges⟩ := a
  obtain ⟨h1, h2, h3, h4, h5, h6⟩ := ha
  have hv' := Lib.hid hv; clear hv h0
  unfold Ask.val at *
  simp only at hn h1 h2 h3 h4 h5 h6
  unfold I64 at *
  by_cases c1 : of < 0
  · cases is
    all_goals
      clear hn
      go_enter Try.func11, Try.ntmps11
      go_wp2_with fail
      (try simp only [Exit.inBlock, Exit.then])
      refine bodyPost_ret (results_tmp4 rfl _ _ _) rfl ?_
      exact ⟨by rw [hv'.out]; rfl, World.grownBy_alloc _ _ _⟩
  by_cases c2 : least < 0
  · cases is
    all_goals
      clear hn
      go_enter Try.func11, Try.ntmps11
      go_wp2_with fail
      (try simp only [Exit.inBlock, Exit.then])
      refine bodyPost_ret (results_tmp4 rfl _ _ _) rfl ?_
      exact ⟨by rw [hv'.out]; rfl, World.grownBy_alloc _ _ _⟩
  by_cases c3 : most < 0
  · cases is
    all_goals
      clear hn
      go_enter Try.func11, Try.ntmps11
      go_wp2_with fail
      (try simp only [Exit.inBlock, Exit.then])
      refine bodyPost_ret (results_tmp4 rfl _ _ _) rfl ?_
      exact ⟨by rw [hv'.out]; rfl, World.grownBy_alloc _ _ _⟩
  by_cases c4 : edges < 0
  · cases is
    all_goals
      clear hn
      go_enter Try.func11, Try.ntmps11
      go_wp2_with fail
      (try simp only [Exit.inBlock, Exit.then])
      refine bodyPost_ret (results_tmp4 rfl _ _ _) rfl ?_
      exact ⟨by rw [hv'.out]; rfl, World.grownBy_alloc _ _ _⟩
  have c5 : is = true ∧ wd < 0 := by rcases hn with h | h | h | h | h <;> first | omega | exact h
  obtain ⟨rfl, c5⟩ := c5
  clear hn
  go_enter Try.func11, Try.ntmps11
  go_wp2_with fail
  (try simp only [Exit.inBlock, Exit.then])
  refine bodyPost_ret (results_tmp4 rfl _ _ _) rfl ?_
  exact ⟨by rw [hv'.out]; rfl, World.grownBy_alloc _ _ _⟩

theorem rsolve_any (of : Int) (a : Ask) (w : World) (ho : I64 of) (ha : a.ok) :
    Calls Try.prog 11 #[.int .i64 of, a.val] w fun e w' => e = .returned (solveV of a).val ∧ w.grownBy w' none := by
  rcases asked_cases of a with h0 | h0 | h0
  · obtain ⟨is, wd, least, most, left, right, al, ar, edges⟩ := a
    have h1 := ha.1
    cases is <;> cases al <;> cases ar
    · exact rsolve_fff of wd least most left right edges w h0 h1.1 h1.2
    · exact rsolve_fft of wd least most left right edges w h0 h1.1 h1.2
    · exact rsolve_ftf of wd least most left right edges w h0 h1.1 h1.2
    · exact rsolve_ftt of wd least most left right edges w h0 h1.1 h1.2
    · exact rsolve_tff of wd least most left right edges w h0 h1.1 h1.2
    · exact rsolve_tft of wd least most left right edges w h0 h1.1 h1.2
    · exact rsolve_ttf of wd least most left right edges w h0 h1.1 h1.2
    · exact rsolve_ttt of wd least most left right edges w h0 h1.1 h1.2
  · exact rsolve_two of a w ho ha h0
  · exact rsolve_ten of a w ho ha h0
end Go.Proofs.Ytjaeoaebkkmaaaa
