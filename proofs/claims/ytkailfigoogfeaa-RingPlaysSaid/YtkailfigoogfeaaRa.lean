/- The walk of ring's 'awake'. -/
import Derived.Test.YtkailfigoogfeaaRm
namespace Go.Proofs.Ytkailfigoogfeaa
open Go Go.RowKit
theorem RingIs.base_ {w : World} {base base' g last : Nat} {f : Nat → List (List Value) × Int} (h : RingIs w base g last f) (hb : base' ≤ base) : RingIs w base' g last f := by
  obtain ⟨h0, cur, h1, h2, h3, h4⟩ := h
  refine ⟨by omega, cur, h1, h2, h3, fun j hj => ?_⟩
  obtain ⟨A, c, a1, a2, a3, a4, a5⟩ := h4 j hj
  exact ⟨A, c, a1, a2, a3.base_ hb, a4, a5⟩
theorem RingIs.ge {w : World} {base g last : Nat} {f : Nat → List (List Value) × Int} (h : RingIs w base g last f) : base ≤ g := h.1
theorem RingIs.after {w : World} {base g last : Nat} {f : Nat → List (List Value) × Int} (h : RingIs w base g last f) {b n c : Nat} {A : Option Addr} {xs : List Value} (ho : Own w b 59 51 A n c xs) : ∀ W, w.grownBy W (some g) → Reads W W.heap.size A xs := fun W hg => by
  obtain ⟨_, cur, h1, _⟩ := h
  exact (ho.kept_ hg h1 (by decide)).reads
def numD (v : Nat) : List (List Value) × Int := ([keyNode (v : Int)], (v : Int))
def numF : Nat → Nat → List (List Value) × Int
  | 0 => fun _ => ([], 0)
  | k + 1 => upd (numF k) ((k + 1) % 4) (numD (k + 1))
theorem numF_get : ∀ (k v : Nat), 1 ≤ v → v ≤ k → k ≤ v + 3 → numF k (v % 4) = numD v
  | 0, v, h1, h2, _ => by omega
  | k + 1, v, h1, h2, h3 => by
    rw [numF]
    by_cases e : v = k + 1
    · subst e; exact upd_same _ _ _
    · rw [upd_ne _ _ (by omega)]
      exact numF_get k v h1 (by omega) (by omega)
theorem wf_small (k : Nat) (h : k ≤ 1000000) : (Lit.int .i64 ((k : Nat) : Int)).wf = true := by
  simp [Lit.wf, IntKind.min, IntKind.max, IntKind.signed, IntKind.bits]
  omega
theorem keyNodes_ok (k : Nat) (h : k ≤ 1000000) : ∀ y ∈ [keyNode (k : Int)], OkAll nodeLs y := fun y hy => by
  rw [List.mem_singleton.1 hy]
  exact keyNode_ok _ (wf_small k h)
/-- A version more: numbered, pushed. -/
theorem pushNum (w : World) (base g k : Nat) (A : Option Addr) (c b : Nat) (h : RingIs w base g k (numF k)) (h1 : 1 ≤ k) (hk : k ≤ 100000) (hbw : base ≤ w.heap.size) (ho : Own w b 59 51 A 1 c [keyNode ((k + 1 : Nat) : Int)].flatten) (v : Int) (hv : v = ((k + 1 : Nat) : Int)) :
    Calls Try.prog 9 #[.pointer (some ⟨g, 0, none⟩), .agg #[.slice A 1 c, .int .i64 v]] w fun e w' => e = .returned (.tuple #[.int .i64 v, .int .i64 0]) ∧ RingIs w' base g (k + 1) (numF (k + 1)) ∧ w.grownBy w' (some g) := by
  subst hv
  exact push_any w base g k (numF k) A 1 c [keyNode ((k + 1 : Nat) : Int)] ((k + 1 : Nat) : Int) h h1 hbw (by omega) (keyNodes_ok (k + 1) (by omega)) rfl (by omega) (h.after ho)
theorem newNum (w : World) (A : Option Addr) (c b : Nat) (ho : Own w b 59 51 A 1 c [keyNode 1].flatten) :
    Calls Try.prog 15 #[.agg #[.slice A 1 c, .int .i64 1]] w fun e w' => ∃ g, e = .returned (.pointer (some ⟨g, 0, none⟩)) ∧ RingIs w' w.heap.size g 1 (numF 1) ∧ w.grownBy w' none :=
  new_any w A 1 c [keyNode 1] 1 (keyNodes_ok 1 (by omega)) rfl (by omega) ho.reads
theorem getNum (w : World) (base g k v : Nat) (h : RingIs w base g k (numF k)) (h1 : 1 ≤ k) (hk : k ≤ 100000) (hv : firstOf k ≤ v) (hv2 : v ≤ k) (u : Int) (hu : u = (v : Int)) :
    Calls Try.prog 10 #[.pointer (some ⟨g, 0, none⟩), .int .i64 u] w fun e w' => ∃ A', e = .returned (.tuple #[.agg #[.slice A' 1 1, .int .i64 u], .int .i64 0]) ∧ Own w' w.heap.size 59 51 A' 1 1 [keyNode u].flatten ∧ w.grownBy w' none := by
  subst hu
  have hf : firstOf k = max 1 (k - 3) := if_neg (by omega)
  have := get_yes w base g k v (numF k) h h1 (by omega) hv hv2
  rw [numF_get k v (by omega) hv2 (by omega)] at this
  exact this
set_option maxRecDepth 100000 in
set_option maxHeartbeats 2000000 in
theorem rawake_any (w : World) : Calls Try.prog 21 #[] w fun e w' => e = .returned (.bool true) ∧ w.grownBy w' none := by
  go_enter Try.func21, Try.ntmps21
  go_wp2_with fail
  refine (numbered_any 1 _ (by decide)).mono ?_; rintro e w1 ⟨rfl, ho1, hg1⟩
  go_wp2_with fail
  refine (newNum _ _ _ _ ho1).mono ?_; rintro e w2 ⟨g, rfl, hR2, hg2⟩
  have hR := hR2.base_ hg1.size
  have hgA := grown_trans hg1 hg2
  clear ho1 hg1 hg2 hR2
  have hf1 : firstOf 1 = 1 := rfl
  have CF := Lib.hid (first_any w2 _ _ _ _ hR (by omega) (by omega))
  rw [hf1] at CF
  clear hf1
  go_wp2_with fail
  refine CF.out.mono ?_; rintro e w3 ⟨rfl, rfl⟩
  go_wp2_with fail
  refine (last_any _ _ _ _ _ hR).mono ?_; rintro e w3 ⟨rfl, rfl⟩
  clear CF
  have hge := hR.ge
  go_wp2_with fail
  go_loopw [2, 3, 4] (fun v _ _ wr => ∃ k : Nat, 1 ≤ k ∧ k ≤ 6 ∧ v = .int .i64 ((k : Int) + 1) ∧ RingIs wr w.heap.size g k (numF k) ∧ w.grownBy wr none) (fun v _ _ _ => 10 - (intOf v).toNat)
  case atStart => exact ⟨1, by omega, by omega, rfl, hR, hgA⟩
  case round =>
    obtain ⟨k, hk1, hk6, rfl, hRk, hg⟩ := hrel
    clear hR
    by_cases hlt : k < 6
    · have CN := Lib.hid (fun W => numbered_any ((k : Int) + 1) W (wf_small (k + 1) (by omega)))
      clear hgA
      go_wp2_with fail
      refine (CN.out _).mono ?_; rintro e w4 ⟨rfl, ho4, hg4⟩
      have hg14 := grown_trans hg hg4
      have CP := Lib.hid (pushNum w4 w.heap.size g k _ 1 _ (hRk.grown0 hg4) hk1 (by omega) hg14.size ho4 ((k : Int) + 1) (by omega))
      clear ho4 hRk hg4 hg CN
      have hself : (((k : Int) + 1) != ((k : Int) + 1)) = false := by simp
      go_wp2_with fail
      refine CP.out.mono ?_; rintro e w5 ⟨rfl, hR5, hg5⟩
      have hg15 := grown_new hg14 hg5 (fun x e => by cases e; exact hge)
      clear CP hg14 hg5
      go_wp2_with fail
      go_roundw
      case rel => exact ⟨k + 1, by omega, by omega, by go_num, hR5, hg15⟩
      case measure => simp [intOf]; omega
    · obtain rfl : k = 6 := by omega
      have hf6 : firstOf 6 = 3 := rfl
      have G2 := Lib.hid (fun V (h : wr.grownBy V none) => get_none V w.heap.size g 6 2 (numF 6) (hRk.grown0 h) (by omega) (by omega) (.inl (by rw [hf6]; omega)))
      have G6 := Lib.hid (fun V (h : wr.grownBy V none) => getNum V w.heap.size g 6 6 (hRk.grown0 h) (by omega) (by omega) (by rw [hf6]; omega) (by omega) 6 rfl)
      have G7 := Lib.hid (fun V (h : wr.grownBy V none) => get_none V w.heap.size g 6 7 (numF 6) (hRk.grown0 h) (by omega) (by omega) (.inr ⟨by rw [hf6]; omega, by omega⟩))
      have CF := Lib.hid (fun V (h : wr.grownBy V none) => first_any V w.heap.size g 6 (numF 6) (hRk.grown0 h) (by omega) (by omega))
      have CL := Lib.hid (fun V (h : wr.grownBy V none) => last_any V w.heap.size g 6 (numF 6) (hRk.grown0 h))
      rw [hf6] at CF
      clear hf6 hRk
      go_wp2_with fail
      refine (G2.out _ (World.grownBy.refl _ _)).mono ?_; rintro e w4 ⟨rfl, hg4⟩
      have hgB := grown_trans hg4 (World.grownBy_alloc w4 (.cells #[.slice none 0 0, .int .i64 0] 24) none)
      clear hg4
      go_wp2_with fail
      refine (G6.out _ hgB).mono ?_; rintro e w5 ⟨A5, rfl, _, hg5⟩
      have b5 := Two.new w5 24 (.slice A5 1 1) (.int .i64 6)
      have hgC := grown_trans (grown_trans hgB hg5) (World.grownBy_alloc w5 (.cells #[.slice A5 1 1, .int .i64 6] 24) none)
      clear hgB hg5
      go_wp2_with fail
      refine (G7.out _ hgC).mono ?_; rintro e w6 ⟨rfl, hg6⟩
      have hgD := grown_trans (grown_trans hgC hg6) (World.grownBy_alloc w6 (.cells #[.slice none 0 0, .int .i64 0] 24) none)
      have b6 := (b5.kept hg6 (by simp)).kept (World.grownBy_alloc w6 (.cells #[.slice none 0 0, .int .i64 0] 24) none) (by simp)
      have c6 := b6.c1
      clear b5 b6 hgC hg6
      go_wp2_with fail
      refine (CF.out _ hgD).mono ?_; rintro e w7 ⟨rfl, rfl⟩
      go_wp2_with fail
      refine (CL.out _ hgD).mono ?_; rintro e w7 ⟨rfl, rfl⟩
      go_wp2
      go_ret
      exact ⟨rfl, grown_trans hg hgD⟩
end Go.Proofs.Ytkailfigoogfeaa
