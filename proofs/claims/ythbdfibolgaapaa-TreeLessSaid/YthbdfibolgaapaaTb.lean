/- A node's parent. -/
import Derived.Test.YthbdfibolgaapaaTk
namespace Go.Proofs.Ythbdfibolgaapaa
open Go Go.RowKit Go.Shelf
attribute [local go_sem] Oper.semAt_some
/-- The last k places ahead of t, falling. -/
def bwdL (t k : Nat) : List Nat := (List.range k).map fun i => t - 1 - i
theorem bwdL_succ (t k : Nat) : bwdL t (k + 1) = bwdL t k ++ [t - 1 - k] := by simp [bwdL, List.range_succ]
theorem mem_bwdL {t k j : Nat} (hk : k ≤ t) : j ∈ bwdL t k ↔ t - k ≤ j ∧ j < t := by
  unfold bwdL
  rw [List.mem_map]
  constructor
  · rintro ⟨i, hi, rfl⟩
    have := List.mem_range.1 hi
    omega
  · rintro ⟨h1, h2⟩
    exact ⟨t - 1 - j, List.mem_range.2 (by omega), by omega⟩
set_option maxRecDepth 100000 in
set_option maxHeartbeats 2000000 in
theorem nback1_in (m : Nat) (hm : 1 ≤ m) (l Bs n₀ M e : Nat) (A : Option Addr) (n t c : Nat) (ht : t ≤ n) (L : List (List Value)) (J Jx : List (Fin n) → World → Prop)
    (hY : ∀ pre (i : Fin n) W, J pre W → pre.length < n → YieldAt Fence.wide (m - 1) Try.prog l #[.int .i64 ((i.val : Nat) : Int), .agg (nd L i.val).toArray] W fun e' W' =>
      (e' = .returned (.bool true) ∧ J (pre ++ [i]) W' ∧ Stay M e W W') ∨ (e' = .returned (.bool false) ∧ Jx (pre ++ [i]) W'))
    (W : World) (hBs : Row W Bs 22 #[.slice A t c]) (hs1 : Bs < M) (hs2 : Bs ≠ e) (hN : NodesAt W n₀ A n L) (hn1 : n₀ ≤ M) (hn2 : n₀ ≤ e) (h0 : J [] W) :
    CallsIn Fence.wide m Try.prog 27 #[.func (.yield l) #[] #[], .pointer (some ⟨Bs, 0, none⟩)] W fun e W' => (∃ v, e = .returned v) ∧
      ((∃ ys : List (Fin n), ys.map Fin.val = bwdL t t ∧ J ys W') ∨ (∃ pre : List (Fin n), (∃ k, k < t ∧ pre.map Fin.val = bwdL t (k + 1)) ∧ Jx pre W')) := by
  have hn := hN.few
  have hNh := Lib.hid hN
  have hBh := Lib.hid hBs
  have cs0 : W.cell? ⟨Bs, 0, none⟩ = some (.slice A t c) := hBs.at 0
  clear hN hBs
  refine callsIn_of_wp Try.func27 rfl trivial ?_ rfl
  simp only [Try.ntmps27, List.size_toArray, List.length_cons, List.length_nil, Nat.reduceAdd, Nat.reduceSub, Array.replicate_succ, Array.replicate_zero, List.push_toArray, List.append_toArray, List.nil_append, List.cons_append]
  gi_wp2
  gi_loopw [3] (fun i wr => ∃ q : Nat, q ≤ t ∧ i = .int .i64 ((q : Int) - 1) ∧ (∃ pre : List (Fin n), pre.map Fin.val = bwdL t (t - q) ∧ J pre wr) ∧ Stay M e W wr) (fun i _ => (intOf i + 1).toNat)
  case atStart => exact ⟨t, Nat.le_refl _, rfl, ⟨[], by rw [Nat.sub_self]; rfl, h0⟩, Stay.refl _ _ _⟩
  case round =>
    obtain ⟨q, hq, rfl, ⟨pre, hpre, hJ⟩, hS⟩ := hrel
    have hpl : pre.length = t - q := by have := congrArg List.length hpre; simpa [bwdL] using this
    have hpre' := Lib.hid hpre
    clear cs0 hpre
    have cs : wr.cell? ⟨Bs, 0, none⟩ = some (.slice A t c) := (hS.row hBh.out hs1 hs2).at 0
    cases q with
    | zero =>
      have hJ' := Lib.hid hJ
      clear hJ
      gi_wp2
      go_end0
      exact ⟨⟨_, rfl⟩, .inl ⟨_, hpre'.out, hJ'.out⟩⟩
    | succ p =>
      have hlt : p < n := by omega
      have hN := hS.nodes hNh.out hn1 hn2
      obtain ⟨ad, rfl, _⟩ := hN.some_ hlt
      have hld := Lib.hid (hN.load hlt)
      have e1 : ((p + 1 : Nat) : Int) - 1 = (p : Int) := by omega
      rw [e1]
      obtain ⟨fn, tmps, assign, body, hy, hR⟩ := hY _ (⟨p, hlt⟩ : Fin n) wr hJ (by omega)
      dsimp only at hy
      have hsn := Lib.hid (show (pre ++ [(⟨p, hlt⟩ : Fin n)]).map Fin.val = bwdL t (t - (p + 1) + 1) by
        rw [List.map_append, hpre'.out, bwdL_succ]
        simp
        omega)
      have hS' := Lib.hid hS
      clear e1 hN hJ hS
      generalize nd L p = y at *
      gi_wp2_with (refine wpListIn_loadv rfl rfl rfl hld.out ?_; simp only [Act.put, List.setIfInBounds_toArray, List.set_cons_zero, List.set_cons_succ])
      refine hR.mono ?_
      rintro e' W3 (⟨rfl, hJ3, hk3⟩ | ⟨rfl, hJx3⟩)
      · gi_wp2
        go_roundw
        case rel => exact ⟨p, by omega, rfl, ⟨_, by rw [show t - p = t - (p + 1) + 1 by omega]; exact hsn.out, hJ3⟩, hS'.out.trans hk3⟩
        case measure => simp [intOf] <;> omega
      · gi_wp2
        refine bodyPost_ret (results_none rfl _ _ _) rfl ?_
        exact ⟨⟨_, rfl⟩, .inr ⟨_, ⟨t - (p + 1), by omega, hsn.out⟩, hJx3⟩⟩
theorem nback_in (m : Nat) (a : Option Addr) (len cap : Nat) (w : World) :
    CallsIn Fence.wide m Try.prog 21 #[.slice a len cap] w fun e w' => e = .returned (.func (.func 27) #[] #[.pointer (some ⟨w.heap.size, 0, none⟩)]) ∧ w.alloc (.cells #[.slice a len cap] 22) = w' := by
  refine callsIn_of_wp Try.func21 rfl trivial ?_ rfl
  simp only [Try.ntmps21, List.size_toArray, List.length_cons, List.length_nil, Nat.reduceAdd, Nat.reduceSub, Array.replicate_succ, Array.replicate_zero, List.push_toArray, List.append_toArray, List.nil_append, List.cons_append]
  gi_wp2
  go_ret
  exact ⟨rfl, rfl⟩
theorem nback_stops (m : Nat) (hm : 1 ≤ m) (Bs n₀ M e : Nat) (A : Option Addr) (n t c : Nat) (ht : t ≤ n) (L : List (List Value)) (w : World)
    (hBs : Row w Bs 22 #[.slice A t c]) (hM : M ≤ w.heap.size) (hs1 : Bs < M) (hs2 : Bs ≠ e) (hN : NodesAt w n₀ A n L) (hn1 : n₀ ≤ M) (hn2 : n₀ ≤ e) :
    SeqStopsK Fence.wide m Try.prog 27 #[.pointer (some ⟨Bs, 0, none⟩)] (fun i : Fin n => #[.int .i64 (i.val : Int), .agg (nd L i.val).toArray]) (Stay M e) (fun ys => ys.map Fin.val = bwdL t t) (fun pre => ∃ k, k < t ∧ pre.map Fin.val = bwdL t (k + 1)) n w := fun l J Jx W hW _ _ hY h0 => by
  have hg := below_grown hW
  exact nback1_in m hm l Bs n₀ M e A n t c ht L J Jx hY W (hBs.kept0 hg) hs1 hs2 (hN.grown0 hg) hn1 hn2 h0
end Go.Proofs.Ythbdfibolgaapaa
