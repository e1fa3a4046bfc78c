/- The walks of slices.IndexFunc and slices.Backward over bytes. -/
import Derived.Test.YthijicpfihpkfaaRa
import Derived.Test.YthijicpfihpkfaaGp
import Derived.Test.YthijicpfihpkfaaRows
import Derived.Shelf.RegionOpen
import Derived.Shelf.Abstract
namespace Go.Proofs.Ythijicpfihpkfaa
open Go Go.RowKit Go.Shelf
attribute [local go_sem] Oper.semAt_some
theorem low_any (d : Nat) (w : World) (_h : d < 256) :
    Calls Try.prog 44 #[.int .u8 d] w fun e w' => e = .returned (.bool (low d)) ∧ w = w' := by
  have hv := Lib.hid (show low d = decide ((d : Int) < 128) by unfold low; rw [decide_eq_decide]; omega)
  go_enter Try.func44, Try.ntmps44
  go_wp2
  go_ret
  exact ⟨by rw [hv.out]; rfl, rfl⟩
def idxV (l : List Nat) : Int := match l.findIdx? low with
  | none => -1
  | some j => j
theorem findIdx_at {l : List Nat} {k : Nat} (hk : k < l.length) (h : ∀ j, j < k → low (nth l j) = false) (h2 : low (nth l k) = true) : l.findIdx? low = some k := by
  rw [List.findIdx?_eq_some_iff_getElem]
  refine ⟨hk, by rw [← nth_getElem hk]; exact h2, fun j hj => ?_⟩
  have := h j hj
  rw [nth_getElem (by omega)] at this
  simp [this]
theorem findIdx_no {l : List Nat} (h : ∀ j, j < l.length → low (nth l j) = false) : l.findIdx? low = none := by
  rw [List.findIdx?_eq_none_iff]
  intro x hx
  obtain ⟨j, hj, rfl⟩ := List.getElem_of_mem hx
  rw [← nth_getElem hj]
  exact h j hj
theorem idx_any (A : Option Addr) (n c : Nat) (l : List Nat) (w : World) (B : Nat) (hl : l.length = n) (hr : Reads w B A (l.map byte)) (hb : Byt l) (hn : n ≤ 1000000) :
    Calls Try.prog 43 #[.slice A n c, .func (.func 44) #[] #[]] w fun e w' => e = .returned (.int .i64 (idxV l)) ∧ w = w' := by
  go_enter Try.func43, Try.ntmps43
  go_wp2
  go_loopw [5, 8] (fun _ v wr => ∃ k : Nat, k ≤ n ∧ v = .int .i64 k ∧ (∀ j, j < k → low (nth l j) = false) ∧ w = wr) (fun _ v _ => n - (intOf v).toNat)
  case atStart => exact ⟨0, Nat.zero_le _, rfl, fun j hj => absurd hj (by omega), rfl⟩
  case round =>
    obtain ⟨k, hk, rfl, heq, rfl⟩ := hrel
    have heq' := Lib.hid heq; clear heq
    by_cases hlt : k < n
    · obtain ⟨ad, rfl, _, hc⟩ := hr.byte_ (k := k) (by omega)
      have hx := hb.nth k
      have C := Lib.hid (fun W => low_any (nth l k) W hx)
      have hq := Lib.hid (show low (nth l k) = low (nth l k) from rfl)
      cases hlo : low (nth l k) with
      | true =>
        have hv := Lib.hid (show idxV l = k by unfold idxV; rw [findIdx_at (by omega) heq'.out hlo])
        rw [hlo] at C
        clear hlo
        generalize nth l k = x at *
        go_wp2_with (go_at_call 44; refine (C.out _).mono ?_; rintro e w' ⟨rfl, rfl⟩)
        go_ret
        exact ⟨by rw [hv.out]; rfl, rfl⟩
      | false =>
        have hlo' := Lib.hid hlo
        rw [hlo] at C
        clear hlo hq
        generalize hnk0 : nth l k = x at hc hx C hlo'
        have hnk := Lib.hid hnk0
        clear hnk0
        go_wp2_with (go_at_call 44; refine (C.out _).mono ?_; rintro e w' ⟨rfl, rfl⟩)
        go_roundw
        case rel => exact ⟨k + 1, by omega, by go_num, fun j hj => by
            rcases Nat.lt_or_ge j k with h | h
            · exact heq'.out j h
            · obtain rfl : j = k := by omega
              rw [hnk.out]
              exact hlo'.out, trivial⟩
        case measure => simp [intOf]; omega
    · have hv := Lib.hid (show idxV l = -1 by unfold idxV; rw [findIdx_no (by intro j hj; exact heq'.out j (by omega))])
      go_wp2
      go_ret
      exact ⟨by rw [hv.out]; rfl, rfl⟩

/-- What comes when the last k bytes have come. -/
def bwd (s : List Nat) (k : Nat) : List (Nat × Fin 256) := (List.range k).map fun i => (s.length - 1 - i, ⟨nth s (s.length - 1 - i) % 256, Nat.mod_lt _ (by decide)⟩)
theorem bwd_succ (s : List Nat) (k : Nat) : bwd s (k + 1) = bwd s k ++ [(s.length - 1 - k, ⟨nth s (s.length - 1 - k) % 256, Nat.mod_lt _ (by decide)⟩)] := by simp [bwd, List.range_succ]
theorem bwd_len (s : List Nat) (k : Nat) : (bwd s k).length = k := by simp [bwd]
set_option maxRecDepth 100000 in
set_option maxHeartbeats 2000000 in
theorem back1_in (F : Fence) (n : Nat) (hF : F.fn 52) (hro : F.round = none) (hn : 1 ≤ n) (l Bs n₀ : Nat) (ad : Addr) (cap : Nat) (s : List Nat) (hs : 0 < s.length) (hsl : s.length ≤ 1000000) (hb : Byt s) (J Jx : List (Nat × Fin 256) → World → Prop)
    (hY : ∀ pre x W, J pre W → pre.length < s.length → YieldAt F (n - 1) Try.prog l #[.int .i64 (x.1 : Int), .int .u8 (x.2.val : Int)] W fun e W' =>
      (e = .returned (.bool true) ∧ J (pre ++ [x]) W' ∧ (Below n₀ W W' ∧ KeepsBox Bs 22 W W')) ∨ (e = .returned (.bool false) ∧ Jx (pre ++ [x]) W'))
    (W : World) (hBs : Boxed W Bs 22 (.slice (some ad) s.length cap)) (hr : Reads W n₀ (some ad) (s.map byte)) (h0 : J [] W) :
    CallsIn F n Try.prog 52 #[.func (.yield l) #[] #[], .pointer (some ⟨Bs, 0, none⟩)] W fun e W' => (∃ v, e = .returned v) ∧
      ((∃ ys, ys = bwd s s.length ∧ J ys W') ∨ (∃ pre, (∃ k, k ≤ s.length ∧ pre = bwd s k) ∧ Jx pre W')) := by
  refine callsIn_of_wp Try.func52 rfl hF ?_ hro
  simp only [Try.ntmps52, List.size_toArray, List.length_cons, List.length_nil, Nat.reduceAdd, Nat.reduceSub, Array.replicate_succ, Array.replicate_zero, List.push_toArray, List.append_toArray, List.nil_append, List.cons_append]
  have hcS := hBs.cell
  gi_wp2
  gi_loopw [3] (fun i wr => ∃ t : Nat, t ≤ s.length ∧ i = .int .i64 ((t : Int) - 1) ∧ J (bwd s (s.length - t)) wr ∧ Below n₀ W wr ∧ Boxed wr Bs 22 (.slice (some ad) s.length cap)) (fun i _ => (intOf i + 1).toNat)
  case atStart => exact ⟨s.length, Nat.le_refl _, rfl, by rw [Nat.sub_self]; exact h0, Below.refl _ _, hBs⟩
  case round =>
    obtain ⟨t, ht, rfl, hJs, hnx, hbB⟩ := hrel
    clear hcS
    have hcB := hbB.cell
    cases t with
    | zero =>
      have hJs' := Lib.hid hJs
      gi_wp2
      go_end0
      exact ⟨⟨_, rfl⟩, .inl ⟨_, rfl, hJs'.out⟩⟩
    | succ m =>
      obtain ⟨ad', e, hblk, hc⟩ := (hr.below hnx).byte_ (k := m) (by omega)
      cases e
      have hx := hb.nth m
      have e1 : ((m + 1 : Nat) : Int) - 1 = (m : Int) := by omega
      rw [e1]
      obtain ⟨fn, tmps, assign, body, hy, hR⟩ := hY _ (m, ⟨nth s m % 256, Nat.mod_lt _ (by decide)⟩) wr hJs (by rw [bwd_len]; omega)
      have e2 : nth s m % 256 = nth s m := Nat.mod_eq_of_lt hx
      dsimp only at hy
      rw [e2] at hy
      have hbs := Lib.hid (bwd_succ s (s.length - (m + 1)))
      have e3 : s.length - 1 - (s.length - (m + 1)) = m := by omega
      have e3' := Lib.hid e3
      clear e1 e2 e3
      gi_wp2
      refine hR.mono ?_
      rintro e W3 (⟨rfl, hJ3, hk3⟩ | ⟨rfl, hJx3⟩)
      · gi_wp2
        go_roundw
        case rel =>
          refine ⟨m, by omega, rfl, ?_, hnx.trans hk3.1, hk3.2 _ hbB⟩
          have h5 : s.length - m = s.length - (m + 1) + 1 := by omega
          rw [h5, hbs.out, e3'.out]
          exact hJ3
        case measure => simp [intOf] <;> omega
      · gi_wp2
        refine bodyPost_ret (results_none rfl _ _ _) rfl ?_
        refine ⟨⟨_, rfl⟩, .inr ⟨_, ⟨s.length - m, by omega, ?_⟩, hJx3⟩⟩
        have h5 : s.length - m = s.length - (m + 1) + 1 := by omega
        rw [h5, hbs.out]
        first | done | rw [e3'.out]
theorem back_in (F : Fence) (n : Nat) (hF : F.fn 45) (hro : F.round = none) (a : Option Addr) (len cap : Nat) (w : World) :
    CallsIn F n Try.prog 45 #[.slice a len cap] w fun e w' => e = .returned (.func (.func 52) #[] #[.pointer (some ⟨w.heap.size, 0, none⟩)]) ∧ w.alloc (.cells #[.slice a len cap] 22) = w' := by
  refine callsIn_of_wp Try.func45 rfl hF ?_ hro
  simp only [Try.ntmps45, List.size_toArray, List.length_cons, List.length_nil, Nat.reduceAdd, Nat.reduceSub, Array.replicate_succ, Array.replicate_zero, List.push_toArray, List.append_toArray, List.nil_append, List.cons_append]
  gi_wp2
  go_ret
  exact ⟨rfl, rfl⟩
theorem back_stops (F : Fence) (n : Nat) (hF : F.fn 52) (hro : F.round = none) (hn : 1 ≤ n) (Bs n₀ : Nat) (ad : Addr) (cap : Nat) (s : List Nat) (hs : 0 < s.length) (hsl : s.length ≤ 1000000) (hb : Byt s) (w : World)
    (hBs : Boxed w Bs 22 (.slice (some ad) s.length cap)) (hn₀ : n₀ ≤ w.heap.size) (hr : Reads w n₀ (some ad) (s.map byte)) :
    SeqStopsK F n Try.prog 52 #[.pointer (some ⟨Bs, 0, none⟩)] (fun x : Nat × Fin 256 => #[.int .i64 (x.1 : Int), .int .u8 (x.2.val : Int)]) (fun A B => Below n₀ A B ∧ KeepsBox Bs 22 A B) (fun ys => ys = bwd s s.length) (fun pre => ∃ k, k ≤ s.length ∧ pre = bwd s k) s.length w := fun l J Jx W hW _ _ hY h0 =>
  back1_in F n hF hro hn l Bs n₀ ad cap s hs hsl hb J Jx hY W (hBs.kept (below_grown hW) (by simp)) (hr.below (hW.mono hn₀)) h0
end Go.Proofs.Ythijicpfihpkfaa
