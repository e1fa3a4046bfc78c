/- NetFull. -/
import Derived.Test.YtdmhaigldckdbaaNl
namespace Go.Proofs.Ytdmhaigldckdbaa
open Go Go.RowKit
theorem at_all (w0 w : World) (g : Nat) (its : List (Int × List Nat)) (h : At w0 g its w) :
    Calls Try.prog 11 #[.pointer (some ⟨g, 0, none⟩)] w fun e w' => ∃ A c, e = .returned (.slice A its.length c) ∧ At w0 g its w' := by
  have h' := h
  obtain ⟨h1, fl, h2, h3⟩ := h
  refine (all_any w _ g fl h3).mono ?_
  rintro e w' ⟨A, c, out, rfl, _, ho⟩
  exact ⟨A, c, by rw [← h2, List.length_map], h'.grown0 ho.1⟩
set_option maxRecDepth 100000 in
set_option maxHeartbeats 2000000 in
theorem NetFull_walk (w : World) (more : Int) (_wm : (Lit.int .i64 more).wf = true) (k : Int) (_wk : (Lit.int .i64 k).wf = true) :
    Calls Try.prog 4 #[.int .i64 more, .int .i64 k] w fun e w' => e = .returned (.bool true) ∧ Below w.heap.size w w' := by
  have CA := Lib.hid (awake_any w)
  have CN := Lib.hid (fun W (hg : w.grownBy W none) => at_new w W hg)
  obtain ⟨m, hm, hm2⟩ : ∃ m : Nat, (IntKind.u64.wrap more).tmod 20 = (m : Int) ∧ m < 20 := by
    have h0 : 0 ≤ IntKind.u64.wrap more := by rw [IntKind.wrap_u64]; exact Int.emod_nonneg _ (by omega)
    refine ⟨(IntKind.u64.wrap more % 20).toNat, ?_, ?_⟩
    · rw [Int.tmod_eq_emod_of_nonneg h0]
      omega
    · omega
  have hw0 : IntKind.i64.wrap (m : Int) = (m : Int) := by rw [IntKind.wrap_i64]; omega
  go_enter Try.func4, Try.ntmps4
  go_wp2_with fail
  refine CA.out.mono ?_; rintro e w1 ⟨rfl, hg1⟩
  go_wp2_with fail
  refine (CN.out _ hg1).mono ?_; rintro e w2 ⟨g, rfl, h2⟩
  go_wp2_with fail
  go_loopw [6, 7] (fun v _ wr => ∃ (j : Nat) (its : List (Int × List Nat)), j ≤ 64 + m ∧ v = .int .i64 j ∧ its.length = min j 64 ∧ At w g its wr) (fun v _ _ => 64 + m - (intOf v).toNat)
  case atStart => exact ⟨0, [], by omega, rfl, by simp, h2⟩
  case round =>
    obtain ⟨j, its, hj, rfl, hl, hA⟩ := hrel
    clear h2
    by_cases hlt : j < 64 + m
    · have hlt' : decide ((j : Int) < 64 + (m : Int)) = true := by simp; omega
      obtain ⟨r5, hr5⟩ : ∃ r5, r5 = j % 5 := ⟨_, rfl⟩
      obtain ⟨r6, hr6⟩ : ∃ r6, r6 = j % 6 := ⟨_, rfl⟩
      have t5 : (j : Int).tmod 5 = (r5 : Int) := by rw [Int.tmod_eq_emod_of_nonneg (by omega)]; omega
      have t6 : (j : Int).tmod 6 = (r6 : Int) := by rw [Int.tmod_eq_emod_of_nonneg (by omega)]; omega
      have hr6' : r6 < 6 := by omega
      by_cases c4 : r5 = 4
      · have e5 : ((r5 : Int) == 4) = true := by simp; omega
        by_cases c64 : j < 64
        · have e64 : decide ((j : Int) < 64) = true := by simp; omega
          have hp : 0 < its.length := by omega
          obtain ⟨x, hx⟩ : ∃ x, its[place (j : Int) its.length]? = some x := ⟨_, List.getElem?_eq_getElem (place_lt _ hp)⟩
          have CC := Lib.hid (at_copy w wr g its j hA (by omega) hp x hx)
          have hl' := Lib.hid hl
          clear hl hr5 hr6 hx hp hA c4
          go_wp2_with fail
          refine CC.out.mono ?_; rintro e w3 ⟨rfl, h3⟩
          go_wp2_with fail
          go_roundw
          case rel => exact ⟨j + 1, its ++ [x], by omega, by go_num, by rw [List.length_append, hl'.out]; simp; omega, h3⟩
          case measure => simp [intOf]; omega
        · have e64 : decide ((j : Int) < 64) = false := by simp; omega
          have CC := Lib.hid (at_cfull w wr g its j hA (by omega))
          have hl' := Lib.hid hl
          clear hl hr5 hr6 hA c4
          go_wp2_with fail
          refine CC.out.mono ?_; rintro e w3 ⟨rfl, h3⟩
          go_wp2_with fail
          go_roundw
          case rel => exact ⟨j + 1, its, by omega, by go_num, by rw [hl'.out]; omega, h3⟩
          case measure => simp [intOf]; omega
      · have e5 : ((r5 : Int) == 4) = false := by simp; omega
        by_cases c64 : j < 64
        · have e64 : decide ((j : Int) < 64) = true := by simp; omega
          have CC := Lib.hid (at_send0 w wr g its r6 hA (by omega) (by omega))
          have hl' := Lib.hid hl
          clear hl hr5 hr6 hA c4
          go_wp2_with fail
          refine CC.out.mono ?_; rintro e w3 ⟨rfl, h3⟩
          go_wp2_with fail
          go_roundw
          case rel => exact ⟨j + 1, its ++ [((r6 : Int), [])], by omega, by go_num, by rw [List.length_append, hl'.out]; simp; omega, h3⟩
          case measure => simp [intOf]; omega
        · have e64 : decide ((j : Int) < 64) = false := by simp; omega
          have CC := Lib.hid (at_sfull w wr g its r6 none 0 0 hA (by omega) (by omega) (by omega))
          have hl' := Lib.hid hl
          clear hl hr5 hr6 hA c4
          go_wp2_with fail
          refine CC.out.mono ?_; rintro e w3 ⟨rfl, h3⟩
          go_wp2_with fail
          go_roundw
          case rel => exact ⟨j + 1, its, by omega, by go_num, by rw [hl'.out]; omega, h3⟩
          case measure => simp [intOf]; omega
    · have hlt' : decide ((j : Int) < 64 + (m : Int)) = false := by simp; omega
      have hl64 : its.length = 64 := by omega
      clear hl
      have hp : 0 < its.length := by omega
      obtain ⟨x, hx⟩ : ∃ x, its[place k its.length]? = some x := ⟨_, List.getElem?_eq_getElem (place_lt _ hp)⟩
      have CT := Lib.hid (at_take w wr g its k hA hp x hx)
      obtain ⟨l1, hl1⟩ : ∃ l1, l1 = its.eraseIdx (place k its.length) := ⟨_, rfl⟩
      have hl1' : l1.length = 63 := by rw [hl1, List.length_eraseIdx, if_pos (place_lt _ hp)]; omega
      rw [← hl1] at CT
      have hp1 : 0 < l1.length := by omega
      obtain ⟨y, hy⟩ : ∃ y, l1[place k l1.length]? = some y := ⟨_, List.getElem?_eq_getElem (place_lt _ hp1)⟩
      have CC := Lib.hid (fun W h => at_copy w W g l1 k h (by omega) hp1 y hy)
      have hl2 : (l1 ++ [y]).length = 64 := by rw [List.length_append, hl1']; rfl
      generalize l1 ++ [y] = l2 at *
      have CS := Lib.hid (fun W h => at_sfull w W g l2 0 none 0 0 h (by omega) (by omega) hl2)
      have CL := Lib.hid (fun W h => at_all w W g l2 h)
      rw [hl2] at CL
      clear hl64 hp hx hl1 hl1' hp1 hy hl2 hA
      go_wp2_with fail
      refine CT.out.mono ?_; rintro e w3 ⟨A, c, rfl, h3⟩
      go_wp2_with fail
      refine (CC.out _ (h3.grown0 (World.grownBy_alloc _ _ _))).mono ?_; rintro e w4 ⟨rfl, h4⟩
      go_wp2_with fail
      refine (CS.out _ h4).mono ?_; rintro e w5 ⟨rfl, h5⟩
      go_wp2_with fail
      refine (CL.out _ h5).mono ?_; rintro e w6 ⟨A6, c6, rfl, h6⟩
      go_wp2_with fail
      go_ret
      exact ⟨rfl, grown_below h6.1⟩
end Go.Proofs.Ytdmhaigldckdbaa
