/- The walk of RingLast: of few documents. -/
import Derived.Test.YtkailfigoogfeaaRp
import Derived.Deep.RegionHeld3
namespace Go.Proofs.Ytkailfigoogfeaa
open Go Go.RowKit
set_option maxRecDepth 100000 in
set_option maxHeartbeats 4000000 in
theorem RingLast_few (a v : Int) (w : World) (hv : -9223372036854775808 ≤ v ∧ v ≤ 9223372036854775807) (n : Nat) (hq : (IntKind.u64.wrap a).tmod 301 = n) (hq2 : (IntKind.u64.wrap a) % 301 = n) (hn : n ≤ 300) (hfo : n ≤ 3 ∧ firstOf (n + 1) = 1) :
    Calls Try.prog 5 #[.int .i64 a, .int .i64 v] w fun e w' => e = .returned (.bool true) ∧ Below w.heap.size w w' := by
  go_enter Try.func5, Try.ntmps5
  go_wp2_with fail
  refine (rawake_any _).mono ?_; rintro e w0 ⟨rfl, hg0⟩
  go_wp2_with fail
  refine (numbered_any 1 _ (by decide)).mono ?_; rintro e w1 ⟨rfl, ho1, hg1⟩
  go_wp2_with fail
  refine (newNum _ _ _ _ ho1).mono ?_; rintro e w2 ⟨g, rfl, hR2, hg2⟩
  have hR := hR2.base_ (Nat.le_trans hg0.size hg1.size)
  have hgA := grown_trans hg0 (grown_trans hg1 hg2)
  have hge := hR.ge
  clear ho1 hg0 hg1 hg2 hR2 hq hq2
  go_wp2_with fail
  have hRh := Lib.hid hR
  have hgh := Lib.hid hgA
  clear hR hgA
  go_loopw [6, 7, 8] (fun u _ _ wr => ∃ k : Nat, 1 ≤ k ∧ k ≤ n + 1 ∧ u = .int .i64 ((k : Int) + 1) ∧ RingIs wr w.heap.size g k (numF k) ∧ w.grownBy wr none) (fun u _ _ _ => 400 - (intOf u).toNat)
  case atStart => exact ⟨1, by omega, by omega, rfl, hRh.out, hgh.out⟩
  case round =>
    obtain ⟨k, hk1, hk6, rfl, hRk, hg⟩ := hrel
    by_cases hlt : k < n + 1
    · have CN := Lib.hid (fun W => numbered_any ((k : Int) + 1) W (wf_small (k + 1) (by omega)))
      clear hfo hRh hgh
      go_wp2_with fail
      refine (CN.out _).mono ?_; rintro e w4 ⟨rfl, ho4, hg4⟩
      have hg14 := grown_trans hg hg4
      have CP := Lib.hid (pushNum w4 w.heap.size g k _ 1 _ (hRk.grown0 hg4) hk1 (by omega) hg14.size ho4 ((k : Int) + 1) (by omega))
      clear ho4 hRk hg4 hg CN
      have hself : (((k : Int) + 1) != ((k : Int) + 1)) = false := by simp
      go_wp2_with fail
      refine CP.out.mono ?_; rintro e w5 ⟨rfl, hR5, hg5⟩
      have hg15 := grown_new hg14 hg5 (fun x e => by cases e; exact hge)
      clear CP hg14 hg5
      go_wp2_with fail
      go_roundw
      case rel => exact ⟨k + 1, by omega, by omega, by go_num, hR5, hg15⟩
      case measure => simp [intOf]; omega
    · obtain rfl : k = n + 1 := by omega
      have CF := Lib.hid (fun V (h : wr.grownBy V none) => first_any V w.heap.size g (n + 1) (numF (n + 1)) (hRk.grown0 h) (by omega) (by omega))
      have CL := Lib.hid (fun V (h : wr.grownBy V none) => last_any V w.heap.size g (n + 1) (numF (n + 1)) (hRk.grown0 h))
      have CY := Lib.hid (fun (i : Nat) (h1 : firstOf (n + 1) ≤ i) (h2 : i ≤ n + 1) V (h : wr.grownBy V none) => getNum V w.heap.size g (n + 1) i (hRk.grown0 h) (by omega) (by omega) h1 h2 (i : Int) rfl)
      have CZ := Lib.hid (fun (u : Int) (hu : u < firstOf (n + 1) ∨ (firstOf (n + 1) ≤ u ∧ ((n + 1 : Nat) : Int) < u)) V (h : wr.grownBy V none) => get_none V w.heap.size g (n + 1) u (numF (n + 1)) (hRk.grown0 h) (by omega) (by omega) hu)
      have GY := Lib.hid (fun (u : Int) (h1 : (firstOf (n + 1) : Int) ≤ u) (h2 : u ≤ (n : Int) + 1) V (h : wr.grownBy V none) => getNum V w.heap.size g (n + 1) u.toNat (hRk.grown0 h) (by omega) (by omega) (by omega) (by omega) u (by omega))
      have e1 : ((n + 1 : Nat) : Int) = (n : Int) + 1 := by omega
      rw [e1] at CL CZ
      clear e1 hRk hRh hgh
      have hF1 : 1 ≤ firstOf (n + 1) ∧ firstOf (n + 1) ≤ n + 1 := by
        obtain ⟨h1, h2⟩ := hfo; omega
      have hself : (((n : Int) + 1) != ((n : Int) + 1)) = false := by simp
      generalize firstOf (n + 1) = F at *
      obtain ⟨h1, h2⟩ := hfo
      have hb1 : ((F : Int) != 1) = false := by simp; omega
      have hFb : F ≤ 1 ∧ 1 ≤ F := ⟨by omega, by omega⟩
      clear h2
      go_wp2_with fail
      refine (CL.out _ (World.grownBy.refl _ _)).mono ?_; rintro e w7 ⟨rfl, rfl⟩
      go_wp2_with fail
      refine (CF.out _ (World.grownBy.refl _ _)).mono ?_; rintro e w7 ⟨rfl, rfl⟩
      go_wp2_with fail
      refine (CF.out _ (World.grownBy.refl _ _)).mono ?_; rintro e w7 ⟨rfl, rfl⟩
      go_wp2_with fail
      refine (CL.out _ (World.grownBy.refl _ _)).mono ?_; rintro e w7 ⟨rfl, rfl⟩
      go_wp2_with fail
      refine (CF.out _ (World.grownBy.refl _ _)).mono ?_; rintro e w7 ⟨rfl, rfl⟩
      go_wp2_with fail
      refine (CF.out _ (World.grownBy.refl _ _)).mono ?_; rintro e w7 ⟨rfl, rfl⟩
      go_wp2_with fail
      obtain ⟨wo, rfl⟩ : ∃ wo : World, wo = wr := ⟨_, rfl⟩
      go_loopw [9, 10, 11, 12] (fun u _ _ _ wr2 => ∃ i : Nat, i ≤ n + 3 ∧ u = .int .i64 (i : Int) ∧ wo.grownBy wr2 none) (fun u _ _ _ _ => 400 - (intOf u).toNat)
      case atStart => exact ⟨0, by omega, rfl, World.grownBy.refl _ _⟩
      case round =>
        obtain ⟨i, hi, rfl, hg2⟩ := hrel
        by_cases hle : i ≤ n + 2
        · by_cases hk : F ≤ i ∧ i ≤ n + 1
          · obtain ⟨hk1, hk2⟩ := hk
            have G1 := Lib.hid (GY.out (i : Int) (by omega) (by omega) wr hg2)
            have CN := Lib.hid (fun W => numbered_any (i : Int) W (wf_small i (by omega)))
            have hd1 : decide ((F : Int) ≤ (i : Int)) = true := by simp; omega
            have hd2 : decide ((i : Int) ≤ (n : Int) + 1) = true := by simp; omega
            have CSm := Lib.hid (fun A c A2 c2 W r1 r2 => same_num A A2 c c2 i (by omega) (i : Int) rfl W r1 r2)
            clear GY CZ
            go_wp2_with fail
            refine G1.out.mono ?_; rintro e w5 ⟨A5, rfl, ho5, hg5⟩
            have b5 := Two.new w5 24 (.slice A5 1 1) (.int .i64 (i : Int))
            have ho6 := ho5.alloc (.cells #[.slice A5 1 1, .int .i64 (i : Int)] 24)
            have hgC := grown_trans (grown_trans hg2 hg5) (World.grownBy_alloc w5 (.cells #[.slice A5 1 1, .int .i64 (i : Int)] 24) none)
            clear ho5 hg5 G1
            go_wp2_with fail
            refine (CF.out _ hgC).mono ?_; rintro e w7 ⟨rfl, rfl⟩
            go_wp2_with fail
            refine (CL.out _ hgC).mono ?_; rintro e w7 ⟨rfl, rfl⟩
            have c0 := b5.c0
            have c1 := b5.c1
            generalize w5.alloc (.cells #[.slice A5 1 1, .int .i64 (i : Int)] 24) = W at *
            go_wp2_with fail
            have hgD := grown_drew hgC
            have ho7 := ho6.grown0 (grown_drew (World.grownBy.refl W none))
            have b8 := b5.kept (grown_drew (World.grownBy.refl W none)) (by simp)
            have hH := b8
            refine wp_region_held_drew (S := fun w' => Two w' w5.heap.size 24 (.slice A5 1 1) (.int .i64 (i : Int))) (by kernel_rfl) hH (fun hH => ?_)
            refine wpAnyH_take (i := 0) (v := ?_) rfl (by kernel_rfl) (by kernel_rfl) (by kernel_rfl) (fun _ _ _ h => h) (Or.inl ⟨by kernel_rfl, ?_⟩) hH ?_
            rotate_left
            · (intro V hS; clear hS; go_simp) <;> with_reducible rfl
            try simp only [Act.put, List.getElem_toArray, List.getElem_cons_succ, List.getElem_cons_zero, List.setIfInBounds_toArray, List.set_cons_zero, List.set_cons_succ]
            refine wpAnyH_take (i := 1) (v := ?_) rfl (by kernel_rfl) (by kernel_rfl) (by kernel_rfl) (fun _ _ _ h => h) (Or.inl ⟨by kernel_rfl, ?_⟩) hH ?_
            rotate_left
            · (intro V hS; clear hS; go_simp) <;> with_reducible rfl
            try simp only [Act.put, List.getElem_toArray, List.getElem_cons_succ, List.getElem_cons_zero, List.setIfInBounds_toArray, List.set_cons_zero, List.set_cons_succ]
            refine wpAnyH_take (i := 2) (v := ?_) rfl (by kernel_rfl) (by kernel_rfl) (by kernel_rfl) (fun _ _ _ h => h) (Or.inl ⟨by kernel_rfl, ?_⟩) hH ?_
            rotate_left
            · (intro V hS; clear hS; go_simp) <;> with_reducible rfl
            try simp only [Act.put, List.getElem_toArray, List.getElem_cons_succ, List.getElem_cons_zero, List.setIfInBounds_toArray, List.set_cons_zero, List.set_cons_succ]
            refine wpAnyH_take (i := 3) (v := ?_) rfl (by kernel_rfl) (by kernel_rfl) (by kernel_rfl) (fun _ _ _ h => h) (Or.inl ⟨by kernel_rfl, ?_⟩) hH ?_
            rotate_left
            · (intro V hS; clear hS; go_simp) <;> with_reducible rfl
            try simp only [Act.put, List.getElem_toArray, List.getElem_cons_succ, List.getElem_cons_zero, List.setIfInBounds_toArray, List.set_cons_zero, List.set_cons_succ]
            refine wpAnyH_take (i := 4) (v := ?_) rfl (by kernel_rfl) (by kernel_rfl) (by kernel_rfl) (fun _ _ _ h => h) (Or.inl ⟨by kernel_rfl, ?_⟩) hH ?_
            rotate_left
            · (intro V hS; clear hS; go_simp) <;> with_reducible rfl
            try simp only [Act.put, List.getElem_toArray, List.getElem_cons_succ, List.getElem_cons_zero, List.setIfInBounds_toArray, List.set_cons_zero, List.set_cons_succ]
            refine wpAnyH_take (i := 5) (v := ?_) rfl (by kernel_rfl) (by kernel_rfl) (by kernel_rfl) (fun _ _ _ h => h) (Or.inl ⟨by kernel_rfl, ?_⟩) hH ?_
            rotate_left
            · (intro V hS; clear hS; go_simp) <;> with_reducible rfl
            try simp only [Act.put, List.getElem_toArray, List.getElem_cons_succ, List.getElem_cons_zero, List.setIfInBounds_toArray, List.set_cons_zero, List.set_cons_succ]
            refine wpAnyH_take (i := 6) (v := ?_) rfl (by kernel_rfl) (by kernel_rfl) (by kernel_rfl) (fun _ _ _ h => h) (Or.inl ⟨by kernel_rfl, ?_⟩) hH ?_
            rotate_left
            · (intro V hS; clear hS; go_simp) <;> with_reducible rfl
            try simp only [Act.put, List.getElem_toArray, List.getElem_cons_succ, List.getElem_cons_zero, List.setIfInBounds_toArray, List.set_cons_zero, List.set_cons_succ]
            refine wpAnyH_take (i := 7) (v := ?_) rfl (by kernel_rfl) (by kernel_rfl) (by kernel_rfl) (fun _ _ _ h => h) (Or.inl ⟨by kernel_rfl, ?_⟩) hH ?_
            rotate_left
            · (intro V hS; have hS0 := hS.c0; have hS1 := hS.c1; clear hS; go_simp) <;> with_reducible rfl
            try simp only [Act.put, List.getElem_toArray, List.getElem_cons_succ, List.getElem_cons_zero, List.setIfInBounds_toArray, List.set_cons_zero, List.set_cons_succ]
            refine wpAnyH_take (i := 8) (v := ?_) rfl (by kernel_rfl) (by kernel_rfl) (by kernel_rfl) (fun _ _ _ h => h) (Or.inl ⟨by kernel_rfl, ?_⟩) hH ?_
            rotate_left
            · (intro V hS; clear hS; go_simp) <;> with_reducible rfl
            try simp only [Act.put, List.getElem_toArray, List.getElem_cons_succ, List.getElem_cons_zero, List.setIfInBounds_toArray, List.set_cons_zero, List.set_cons_succ]
            refine wpAnyH_ready (rs := [9]) (by kernel_rfl) (by simp) ?_
            refine AllReadyH.cons rfl (fun K hK => ?_) AllReadyH.nil
            go_simp
            refine (CN.out _).mono ?_; rintro e w8 ⟨rfl, ho8, hg8⟩
            have hx := hg8
            refine hK.out _ _ (hH.kept hx (by simp)) (fun hH => ?_)
            clear hK K
            try simp only [Act.put, List.getElem_toArray, List.getElem_cons_succ, List.getElem_cons_zero, List.setIfInBounds_toArray, List.set_cons_zero, List.set_cons_succ]
            refine wpAnyH_ready (rs := [10]) (by kernel_rfl) (by simp) ?_
            refine AllReadyH.cons rfl (fun K hK => ?_) AllReadyH.nil
            go_simp
            clear hx
            refine (CSm.out _ _ _ _ _ (ho7.grown0 hg8).reads ho8.reads).mono ?_; rintro e w9 ⟨rfl, hg9⟩
            have hx := hg9
            refine hK.out _ _ (hH.kept hx (by simp)) (fun hH => ?_)
            clear hK K
            try simp only [Act.put, List.getElem_toArray, List.getElem_cons_succ, List.getElem_cons_zero, List.setIfInBounds_toArray, List.set_cons_zero, List.set_cons_succ]
            refine wpAnyH_take (i := 11) (v := ?_) rfl (by kernel_rfl) (by kernel_rfl) (by kernel_rfl) (fun _ _ _ h => h) (Or.inl ⟨by kernel_rfl, ?_⟩) hH ?_
            rotate_left
            · (intro V hS; clear hS; go_simp) <;> with_reducible rfl
            try simp only [Act.put, List.getElem_toArray, List.getElem_cons_succ, List.getElem_cons_zero, List.setIfInBounds_toArray, List.set_cons_zero, List.set_cons_succ]
            refine wpAnyH_take (i := 12) (v := ?_) rfl (by kernel_rfl) (by kernel_rfl) (by kernel_rfl) (fun _ _ _ h => h) (Or.inl ⟨by kernel_rfl, ?_⟩) hH ?_
            rotate_left
            · (intro V hS; clear hS; go_simp) <;> with_reducible rfl
            try simp only [Act.put, List.getElem_toArray, List.getElem_cons_succ, List.getElem_cons_zero, List.setIfInBounds_toArray, List.set_cons_zero, List.set_cons_succ]
            refine wpAnyH_take (i := 13) (v := ?_) rfl (by kernel_rfl) (by kernel_rfl) (by kernel_rfl) (fun _ _ _ h => h) (Or.inl ⟨by kernel_rfl, ?_⟩) hH ?_
            rotate_left
            · (intro V hS; clear hS; go_simp) <;> with_reducible rfl
            try simp only [Act.put, List.getElem_toArray, List.getElem_cons_succ, List.getElem_cons_zero, List.setIfInBounds_toArray, List.set_cons_zero, List.set_cons_succ]
            refine wpAnyH_take (i := 14) (v := ?_) rfl (by kernel_rfl) (by kernel_rfl) (by kernel_rfl) (fun _ _ _ h => h) (Or.inl ⟨by kernel_rfl, ?_⟩) hH ?_
            rotate_left
            · (intro V hS; clear hS; go_simp) <;> with_reducible rfl
            try simp only [Act.put, List.getElem_toArray, List.getElem_cons_succ, List.getElem_cons_zero, List.setIfInBounds_toArray, List.set_cons_zero, List.set_cons_succ]
            refine wpAnyH_take (i := 15) (v := ?_) rfl (by kernel_rfl) (by kernel_rfl) (by kernel_rfl) (fun _ _ _ h => h) (Or.inl ⟨by kernel_rfl, ?_⟩) hH ?_
            rotate_left
            · (intro V hS; clear hS; go_simp) <;> with_reducible rfl
            try simp only [Act.put, List.getElem_toArray, List.getElem_cons_succ, List.getElem_cons_zero, List.setIfInBounds_toArray, List.set_cons_zero, List.set_cons_succ]
            refine wpAnyH_take (i := 16) (v := ?_) rfl (by kernel_rfl) (by kernel_rfl) (by kernel_rfl) (fun _ _ _ h => h) (Or.inl ⟨by kernel_rfl, ?_⟩) hH ?_
            rotate_left
            · (intro V hS; clear hS; go_simp) <;> with_reducible rfl
            try simp only [Act.put, List.getElem_toArray, List.getElem_cons_succ, List.getElem_cons_zero, List.setIfInBounds_toArray, List.set_cons_zero, List.set_cons_succ]
            refine wpAnyH_take (i := 17) (v := ?_) rfl (by kernel_rfl) (by kernel_rfl) (by kernel_rfl) (fun _ _ _ h => h) (Or.inl ⟨by kernel_rfl, ?_⟩) hH ?_
            rotate_left
            · (intro V hS; clear hS; go_simp) <;> with_reducible rfl
            try simp only [Act.put, List.getElem_toArray, List.getElem_cons_succ, List.getElem_cons_zero, List.setIfInBounds_toArray, List.set_cons_zero, List.set_cons_succ]
            refine wpAnyH_take (i := 18) rfl (by kernel_rfl) (by kernel_rfl) (by kernel_rfl) (fun _ _ _ h => h) (Or.inr ⟨by kernel_rfl, rfl⟩) hH ?_
            try simp only [Act.put, List.getElem_toArray, List.getElem_cons_succ, List.getElem_cons_zero, List.setIfInBounds_toArray, List.set_cons_zero, List.set_cons_succ]
            refine wpAnyH_take (i := 19) rfl (by kernel_rfl) (by kernel_rfl) (by kernel_rfl) (fun _ _ _ h => h) (Or.inr ⟨by kernel_rfl, rfl⟩) hH ?_
            try simp only [Act.put, List.getElem_toArray, List.getElem_cons_succ, List.getElem_cons_zero, List.setIfInBounds_toArray, List.set_cons_zero, List.set_cons_succ]
            refine wpAnyH_take (i := 20) (v := ?_) rfl (by kernel_rfl) (by kernel_rfl) (by kernel_rfl) (fun _ _ _ h => h) (Or.inl ⟨by kernel_rfl, ?_⟩) hH ?_
            rotate_left
            · (intro V hS; clear hS; go_simp) <;> with_reducible rfl
            try simp only [Act.put, List.getElem_toArray, List.getElem_cons_succ, List.getElem_cons_zero, List.setIfInBounds_toArray, List.set_cons_zero, List.set_cons_succ]
            refine wpAnyH_take (i := 21) (v := ?_) rfl (by kernel_rfl) (by kernel_rfl) (by kernel_rfl) (fun _ _ _ h => h) (Or.inl ⟨by kernel_rfl, ?_⟩) hH ?_
            rotate_left
            · (intro V hS; clear hS; go_simp) <;> with_reducible rfl
            try simp only [Act.put, List.getElem_toArray, List.getElem_cons_succ, List.getElem_cons_zero, List.setIfInBounds_toArray, List.set_cons_zero, List.set_cons_succ]
            refine wpAnyH_done (by kernel_rfl) ?_ _
            go_wp2_with fail
            go_roundw
            case rel => exact ⟨i + 1, by omega, by go_num, grown_trans hgD (grown_trans hg8 hg9)⟩
            case measure => simp [intOf]; omega
          · have G1 := Lib.hid (CZ.out (i : Int) (by omega) wr hg2)
            have hor : ((i : Int) < (F : Int) ∧ decide ((F : Int) ≤ (i : Int)) = false) ∨ (((F : Int) ≤ (i : Int) ∧ (n : Int) + 1 < (i : Int)) ∧ decide ((F : Int) ≤ (i : Int)) = true ∧ decide ((i : Int) ≤ (n : Int) + 1) = false) := by simp; omega
            clear GY CZ CY hk
            rcases hor with ⟨hlo, hd1⟩ | ⟨⟨hhi, hhi2⟩, hd1, hd2⟩
            all_goals
              go_wp2_with fail
              refine G1.out.mono ?_; rintro e w5 ⟨rfl, hg5⟩
              have hgC := grown_trans (grown_trans hg2 hg5) (World.grownBy_alloc w5 (.cells #[.slice none 0 0, .int .i64 0] 24) none)
              clear hg5 G1
              go_wp2_with fail
              refine (CF.out _ hgC).mono ?_; rintro e w7 ⟨rfl, rfl⟩
              go_wp2_with fail
            · go_quiet (fail)
              go_wp2
              go_roundw
              case rel => exact ⟨i + 1, by omega, by go_num, grown_drewN hgC _⟩
              case measure => simp [intOf]; omega
            · refine (CL.out _ hgC).mono ?_; rintro e w7 ⟨rfl, rfl⟩
              go_wp2_with fail
              go_quiet (fail)
              go_wp2
              go_roundw
              case rel => exact ⟨i + 1, by omega, by go_num, grown_drewN hgC _⟩
              case measure => simp [intOf]; omega
        · by_cases hk : (F : Int) ≤ v ∧ v ≤ (n : Int) + 1
          · obtain ⟨hk1, hk2⟩ := hk
            have G1 := Lib.hid (GY.out v hk1 hk2 wr hg2)
            have hd1 : decide ((F : Int) ≤ v) = true := by simp; omega
            have hd2 : decide (v ≤ (n : Int) + 1) = true := by simp; omega
            clear GY CZ CY
            go_wp2_with fail
            refine G1.out.mono ?_; rintro e w5 ⟨A5, rfl, ho5, hg5⟩
            have hgC := grown_trans (grown_trans hg2 hg5) (World.grownBy_alloc w5 (.cells #[.slice A5 1 1, .int .i64 v] 24) none)
            clear ho5 hg5 G1
            go_wp2_with fail
            refine (CF.out _ hgC).mono ?_; rintro e w7 ⟨rfl, rfl⟩
            go_wp2_with fail
            refine (CL.out _ hgC).mono ?_; rintro e w7 ⟨rfl, rfl⟩
            go_wp2
            go_ret
            exact ⟨rfl, grown_below (grown_trans hg hgC)⟩
          · have G1 := Lib.hid (CZ.out v (by omega) wr hg2)
            have hor : (v < (F : Int) ∧ decide ((F : Int) ≤ v) = false) ∨ (((F : Int) ≤ v ∧ (n : Int) + 1 < v) ∧ decide ((F : Int) ≤ v) = true ∧ decide (v ≤ (n : Int) + 1) = false) := by simp; omega
            clear GY CZ CY hk
            rcases hor with ⟨hlo, hd1⟩ | ⟨⟨hhi, hhi2⟩, hd1, hd2⟩
            all_goals
              go_wp2_with fail
              refine G1.out.mono ?_; rintro e w5 ⟨rfl, hg5⟩
              have hgC := grown_trans (grown_trans hg2 hg5) (World.grownBy_alloc w5 (.cells #[.slice none 0 0, .int .i64 0] 24) none)
              clear hg5 G1
              go_wp2_with fail
              refine (CF.out _ hgC).mono ?_; rintro e w7 ⟨rfl, rfl⟩
              go_wp2_with fail
            · go_ret
              exact ⟨rfl, grown_below (grown_trans hg hgC)⟩
            · refine (CL.out _ hgC).mono ?_; rintro e w7 ⟨rfl, rfl⟩
              go_wp2
              go_ret
              exact ⟨rfl, grown_below (grown_trans hg hgC)⟩
end Go.Proofs.Ytkailfigoogfeaa
