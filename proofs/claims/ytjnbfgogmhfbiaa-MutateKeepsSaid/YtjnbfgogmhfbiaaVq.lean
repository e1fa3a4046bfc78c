/- The law's guards: Great, great. -/
import Derived.Test.YtjnbfgogmhfbiaaVp
import Derived.Deep.RegionWith
import Derived.BigQuiet
import Derived.Deep.QuietTactic
namespace Go.Proofs.Ytjnbfgogmhfbiaa
open Go Go.RowKit
def GreatPost (L : List (List Value)) (n : Nat) (w : World) (e : Ending) (w' : World) : Prop := ∃ b : Bool, e = .returned (.bool b) ∧ (b = false → n ≤ 320 ∧ total L ≤ 5000) ∧ w.grownBy w' none
set_option maxHeartbeats 1000000 in
theorem great_any (A : Option Addr) (n c : Nat) (L : List (List Value)) (x : Int) (w : World) (hL : ∀ y ∈ L, OkAll nodeLs y) (hl : L.length = n) (hr : Reads w w.heap.size A L.flatten) (hn : n ≤ 9223372036854775807) :
    Calls Try.prog 21 #[.agg #[.slice A n c, .int .i64 x]] w (GreatPost L n w) := by
  have hg0 := World.grownBy_alloc w (.cells #[.slice A n c, .int .i64 x] 24) none
  have HC := Lib.hid (fun k (hk : k < n) W (hg : w.grownBy W none) => nodes_cell hL (hr.grown0 hg) (i := k) (by omega))
  have hg0' := Lib.hid hg0
  have hl' := Lib.hid hl
  have b1 := Two.new w 24 (.slice A n c) (.int .i64 x)
  have c0 := b1.c0
  clear hL hr hl hg0 b1
  by_cases hn3 : n ≤ 320
  · have d0 : decide ((320 : Int) < (n : Int)) = false := by simp; omega
    go_enter Try.func21, Try.ntmps21
    go_wp2_with fail
    go_loop [3, 4] (fun v i => ∃ (k : Nat) (t : Nat), k ≤ n ∧ t = total (L.take k) ∧ t ≤ 5000 ∧ i = .int .i64 k ∧ v = .int .i64 ((5000 : Int) - t)) (fun _ i => n - (intOf i).toNat)
    case atStart => exact ⟨0, 0, by omega, by simp [total], by omega, rfl, rfl⟩
    case round =>
      obtain ⟨k, t, hk, ht, ht5, rfl, rfl⟩ := hrel
      have ht' := Lib.hid ht
      clear ht
      by_cases hlt : k < n
      · obtain ⟨ad, y, rfl, _, hy, hok, hcl⟩ := HC.out k hlt _ hg0'.out
        obtain ⟨s, hs, hsz, hsb⟩ := n_text hok
        have hc := hcl 50 (by omega)
        rw [hs, add_pos _ _ (by omega)] at hc
        have htt := Lib.hid (total_take L k (by have := hl'.out; omega))
        rw [nd_some hy] at htt
        have hsz' := Lib.hid hsz
        have hsb2 : s.size ≤ 9223372036854775807 := by omega
        clear hcl hy hok hs hsz hsb
        by_cases hbig : (5000 : Int) - t < (s.size : Int)
        · have d1 : decide ((5000 : Int) - t < (s.size : Int)) = true := decide_eq_true hbig
          go_wp2_with fail
          go_ret
          exact ⟨true, rfl, fun h => (by cases h), hg0'.out⟩
        · have d1 : decide ((5000 : Int) - t < (s.size : Int)) = false := decide_eq_false hbig
          have hsm : s.size ≤ 5000 := by omega
          go_wp2_with fail
          go_round
          case rel => exact ⟨k + 1, t + s.size, by omega, by rw [htt.out, ← hsz'.out, ← ht'.out], by omega, by go_num, by go_num⟩
          case measure => simp [intOf]; omega
      · obtain rfl : k = n := by omega
        go_wp2_with fail
        go_ret
        exact ⟨false, rfl, fun _ => ⟨hn3, by have h1 := ht'.out; rw [List.take_of_length_le (by have := hl'.out; omega)] at h1; omega⟩, hg0'.out⟩
  · have d0 : decide ((320 : Int) < (n : Int)) = true := by simp; omega
    go_enter Try.func21, Try.ntmps21
    go_wp2_with fail
    go_ret
    exact ⟨true, rfl, fun h => (by cases h), hg0'.out⟩
theorem len_total {L : List (List Value)} {i : Nat} (hi : i < L.length) : lenN (nd L i) ≤ total L := by
  have h1 := total_take L i hi
  have h2 := total_append (L.take (i + 1)) (L.drop (i + 1))
  rw [List.take_append_drop] at h2
  omega
/-- A value is another one: numbers, truths. -/
def sameV : Value → Value → Bool
  | .int k n, .int k' n' => decide (k = k') && decide (n = n')
  | .bool b, .bool b' => b == b'
  | _, _ => false
theorem sameV_eq {a b : Value} (h : sameV a b = true) : a = b := by
  cases a <;> cases b <;> simp only [sameV, Bool.and_eq_true, decide_eq_true_eq, beq_iff_eq, Bool.false_eq_true] at h
  · rw [h]
  · rw [h.1, h.2]
def sameL : List Value → List Value → Bool
  | [], [] => true
  | a :: r, b :: s => sameV a b && sameL r s
  | _, _ => false
theorem sameL_eq : ∀ {x y : List Value}, sameL x y = true → x = y
  | [], [], _ => rfl
  | [], _ :: _, h => by simp [sameL] at h
  | _ :: _, [], h => by simp [sameL] at h
  | a :: r, b :: s, h => by
    simp only [sameL, Bool.and_eq_true] at h
    rw [sameV_eq h.1, sameL_eq h.2]
def fitsB (x : List Value) (nx : Int) : Bool :=
  decide (1 ≤ keyN x) && (decide (keyN x < nx) && (decide (0 ≤ depN x) && (decide (depN x < 16) && ((decide (kindN x = 0) && decide (lenN x = 0)) || (decide (kindN x = 1) && (sameL (styN x) zeroSty && decide (lenN x ≤ 200)))))))
theorem fitsB_spec {x : List Value} {nx : Int} (h : fitsB x nx = true) : Fits x nx := by
  simp only [fitsB, Bool.and_eq_true, Bool.or_eq_true, decide_eq_true_eq] at h
  exact ⟨h.1, h.2.1, h.2.2.1, h.2.2.2.1, h.2.2.2.2.imp id (fun h => ⟨h.1, sameL_eq h.2.1, h.2.2⟩)⟩
def goodB (L : List (List Value)) (nx : Int) (i : Nat) : Bool :=
  fitsB (nd L i) nx && ((List.range i).all (fun k => decide (keyN (nd L k) ≠ keyN (nd L i))) && (if i = 0 then decide (depN (nd L i) = 0) else
    decide (1 ≤ depN (nd L i)) && (decide (depN (nd L i) ≤ depN (nd L (i - 1)) + 1) && (!decide (depN (nd L (i - 1)) < depN (nd L i)) || decide (kindN (nd L (i - 1)) ≠ 1)))))
theorem goodB_spec {L : List (List Value)} {nx : Int} {i : Nat} (h : goodB L nx i = true) : Good L nx i := by
  simp only [goodB, Bool.and_eq_true, List.all_eq_true, List.mem_range, decide_eq_true_eq] at h
  obtain ⟨h1, h2, h3⟩ := h
  refine ⟨fitsB_spec h1, h2, fun h0 => ?_, fun h0 => ?_⟩
  · rw [if_pos h0] at h3
    simpa using h3
  · rw [if_neg (by omega)] at h3
    simp only [Bool.and_eq_true, Bool.or_eq_true, decide_eq_true_eq, Bool.not_eq_true', decide_eq_false_iff_not] at h3
    exact ⟨h3.1, h3.2.1, fun h4 => h3.2.2.resolve_left (fun h5 => h5 h4)⟩
def mayLB (L : List (List Value)) (nx : Int) : Bool :=
  decide (1 ≤ L.length) && (decide (L.length ≤ 300) && (decide (nx ≤ 1073741825) && ((List.range L.length).all (goodB L nx) && (decide (kindN (nd L 0) = 0) && (decide (total L ≤ 1500) && flexGo (fun _ => 0) L)))))
theorem mayLB_spec {L : List (List Value)} {nx : Int} (h : mayLB L nx = true) : MayL L nx := by
  simp only [mayLB, Bool.and_eq_true, List.all_eq_true, List.mem_range, decide_eq_true_eq] at h
  obtain ⟨h1, h2, h3, h4, h5, h6, h7⟩ := h
  exact ⟨⟨h1, h2, h3, fun i hi => goodB_spec (h4 i hi), h5, h6⟩, h7⟩
def mkN (k d : Int) : List Value := (zeroNode.set 0 (.int .i64 k)).set 1 (.int .i64 d)
def fourL : List (List Value) := [mkN 1 0, mkN 2 1, mkN 3 2, mkN 4 1]
theorem four_ok : ∀ y ∈ fourL, OkAll nodeLs y := fun y hy => by
  simp only [fourL, List.mem_cons, List.not_mem_nil, or_false] at hy
  rcases hy with rfl | rfl | rfl | rfl <;> exact okB_ok _ _ (by decide +kernel)
theorem four_may : MayL fourL 5 := mayLB_spec (by decide +kernel)
theorem none_may : ¬ MayL [] 0 := fun h => by have := h.1.1; simp at this
theorem applies_uniq {L : List (List Value)} {x : Int} {c : Chg} {a b : Except Int (List (List Value) × Int)} (ha : Applies L x c a) (hb : Applies L x c b) : a = b := by
  cases a with
  | error e =>
    cases b with
    | error e' =>
      rcases ha with ⟨h1, rfl⟩ | ⟨h1, h2, rfl⟩ | ⟨h1, h2, h3⟩ | ⟨h1, h2, ⟨L1, x1, h3, h4⟩, rfl⟩ <;> rcases hb with ⟨k1, rfl⟩ | ⟨k1, k2, rfl⟩ | ⟨k1, k2, k3⟩ | ⟨k1, k2, ⟨L2, x2, k3, k4⟩, rfl⟩ <;> first | rfl | exact absurd h1 k1 | exact absurd k1 h1 | exact absurd h2 k2 | exact absurd k2 h2 | (rw [h3] at k3; cases k3; rfl) | (rw [h3] at k3; cases k3)
    | ok v =>
      obtain ⟨L', x'⟩ := v
      obtain ⟨k1, k2, k3, k4⟩ := hb
      rcases ha with ⟨h1, rfl⟩ | ⟨h1, h2, rfl⟩ | ⟨h1, h2, h3⟩ | ⟨h1, h2, ⟨L1, x1, h3, h4⟩, rfl⟩
      · exact absurd k1 h1
      · exact absurd k2 h2
      · rw [h3] at k3; cases k3
      · rw [h3] at k3; cases k3; exact absurd k4 h4
  | ok v =>
    obtain ⟨L', x'⟩ := v
    obtain ⟨h1, h2, h3, h4⟩ := ha
    cases b with
    | error e' =>
      rcases hb with ⟨k1, rfl⟩ | ⟨k1, k2, rfl⟩ | ⟨k1, k2, k3⟩ | ⟨k1, k2, ⟨L2, x2, k3, k4⟩, rfl⟩
      · exact absurd h1 k1
      · exact absurd h2 k2
      · rw [h3] at k3; cases k3
      · rw [h3] at k3; cases k3; exact absurd h4 k4
    | ok v' =>
      obtain ⟨L2, x2⟩ := v'
      obtain ⟨k1, k2, k3, k4⟩ := hb
      rw [h3] at k3
      cases k3
      rfl
theorem apply_ok {A : Option Addr} {n k : Nat} {x x' : Int} {L L' : List (List Value)} {c : Chg} {w : World} (hN : NodesAt w w.heap.size A n L) (hsm : ∀ i, i < n → lenN (nd L i) ≤ 5000) (hc : c.ok) (hcy : lenN c.y ≤ 5000) (h : Applies L x c (.ok (L', x'))) (hL' : L'.length ≤ 1000) :
    Calls Try.prog 10 #[.agg #[.slice A n k, .int .i64 x], .agg c.cells] w fun r w' => ∃ A' k', r = .returned (.tuple #[.agg #[.slice A' L'.length k', .int .i64 x'], .int .i64 0]) ∧ NodesAt w' w'.heap.size A' L'.length L' ∧ w.grownBy w' none :=
  (apply_any A n k x L c w hN hsm hc hcy).mono fun r w' hh => by
    obtain ⟨⟨res, h1, h2⟩, hg⟩ := hh
    rw [applies_uniq h1 h] at h2
    obtain ⟨A', n', k', h3, h4, rfl, h6⟩ := h2
    exact ⟨A', k', h3, ⟨h6, rfl, h4.reads, hL'⟩, hg⟩
theorem apply_err {A : Option Addr} {n k : Nat} {x e : Int} {L : List (List Value)} {c : Chg} {w : World} (hN : NodesAt w w.heap.size A n L) (hsm : ∀ i, i < n → lenN (nd L i) ≤ 5000) (hc : c.ok) (hcy : lenN c.y ≤ 5000) (h : Applies L x c (.error e)) :
    Calls Try.prog 10 #[.agg #[.slice A n k, .int .i64 x], .agg c.cells] w fun r w' => r = .returned (.tuple #[.agg #[.slice none 0 0, .int .i64 0], .int .i64 e]) ∧ w.grownBy w' none :=
  (apply_any A n k x L c w hN hsm hc hcy).mono fun r w' hh => by
    obtain ⟨⟨res, h1, h2⟩, hg⟩ := hh
    rw [applies_uniq h1 h] at h2
    exact ⟨h2, hg⟩
theorem may_ok {A : Option Addr} {n k : Nat} {x : Int} {L : List (List Value)} {w : World} (hN : NodesAt w w.heap.size A n L) (hsm : ∀ i, i < n → lenN (nd L i) ≤ 5000) (h : MayL L x) :
    Calls Try.prog 11 #[.agg #[.slice A n k, .int .i64 x]] w fun r w' => r = .returned (.bool true) ∧ w.grownBy w' none :=
  (may7_any A n k x L w hN hsm).mono fun _ _ ⟨⟨b, h1, h2⟩, hg⟩ => ⟨by rw [h1, h2.2 h], hg⟩
theorem may_not {A : Option Addr} {n k : Nat} {x : Int} {L : List (List Value)} {w : World} (hN : NodesAt w w.heap.size A n L) (hsm : ∀ i, i < n → lenN (nd L i) ≤ 5000) (h : ¬ MayL L x) :
    Calls Try.prog 11 #[.agg #[.slice A n k, .int .i64 x]] w fun r w' => r = .returned (.bool false) ∧ w.grownBy w' none :=
  (may7_any A n k x L w hN hsm).mono fun _ _ ⟨⟨b, h1, h2⟩, hg⟩ => ⟨by
    cases b with
    | false => exact h1
    | true => exact absurd (h2.1 rfl) h, hg⟩
end Go.Proofs.Ytjnbfgogmhfbiaa
