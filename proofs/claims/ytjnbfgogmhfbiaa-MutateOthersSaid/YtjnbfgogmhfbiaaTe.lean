/- The iterator below a place; the place behind a tree. -/
import Derived.Test.YtjnbfgogmhfbiaaTi
import Derived.RangeFuncNested
import Derived.RangeFuncLeaves
import Derived.Sort.QuietIn
import Derived.BigGuardIn
import Derived.LoopIn
import Derived.Maps.OwnIn
import Derived.Deep.Light
import Derived.Shelf.RegionOpen
import Derived.Shelf.Abstract
namespace Go.Proofs.Ytjnbfgogmhfbiaa
open Go Go.RowKit Go.Shelf
theorem Own.row_of {w : World} {base e size n cap b : Nat} {A : Option Addr} {xs : List Value} (h : Own w base e size A n cap xs) (hr : rowOf A cap = some b) : ∃ cur, w.heap[b]? = some (.cells cur e (0, 0)) := by
  by_cases hc : cap = 0
  · simp [rowOf, hc] at hr
  · rcases h.2.2.2 with h4 | ⟨k, cur, rfl, _, hgg, _⟩
    · exact absurd h4 hc
    · simp [rowOf, hc] at hr
      subst hr
      exact ⟨cur, hgg⟩
section
variable {w W : World} {B : Nat} {n i : Nat} {L : List (List Value)} {ad : Addr}
theorem NodesAt.key_ (h : NodesAt w B (some ad) n L) (hi : i < n) : w.cell? (ad.add (i * 51)) = some (.int .i64 (keyN (nd L i))) := by
  obtain ⟨ad', e, _, hc⟩ := h.at_ hi
  cases e
  exact (hc 0 (by omega)).trans (n_key (h.nd_ok hi)).1
theorem NodesAt.dep_ (h : NodesAt w B (some ad) n L) (hi : i < n) : w.cell? ⟨(ad.add (i * 51)).block, (ad.add (i * 51)).off + 1, none⟩ = some (.int .i64 (dp L i)) := by
  obtain ⟨ad', e, _, hc⟩ := h.at_ hi
  cases e
  have := (hc 1 (by omega)).trans (n_dep (h.nd_ok hi)).1
  rwa [add_pos _ _ (by omega)] at this
theorem NodesAt.kind_ (h : NodesAt w B (some ad) n L) (hi : i < n) : w.cell? ⟨(ad.add (i * 51)).block, (ad.add (i * 51)).off + 2, none⟩ = some (.int .u8 (kindN (nd L i))) := by
  obtain ⟨ad', e, _, hc⟩ := h.at_ hi
  cases e
  have := (hc 2 (by omega)).trans (n_kind (h.nd_ok hi)).1
  rwa [add_pos _ _ (by omega)] at this
theorem NodesAt.text_ (h : NodesAt w B (some ad) n L) (hi : i < n) : ∃ s : ByteArray, w.cell? ⟨(ad.add (i * 51)).block, (ad.add (i * 51)).off + 50, none⟩ = some (.string s) ∧ s.size = lenN (nd L i) ∧ lenN (nd L i) ≤ 9223372036854775807 := by
  obtain ⟨ad', e, _, hc⟩ := h.at_ hi
  cases e
  obtain ⟨s, h1, h2⟩ := n_text (h.nd_ok hi)
  have := (hc 50 (by omega)).trans h1
  rw [add_pos _ _ (by omega)] at this
  exact ⟨s, this, h2⟩
theorem NodesAt.dep_b {A : Option Addr} (h : NodesAt w B A n L) (hi : i < n) : -9223372036854775808 ≤ dp L i ∧ dp L i ≤ 9223372036854775807 := (n_dep (h.nd_ok hi)).2
end
/-- All below 'M' but 'e' lies as it lay. -/
def Stay (M e : Nat) (W W' : World) : Prop := W'.os = W.os ∧ W'.tape = W.tape ∧ W'.output = W.output ∧ W.heap.size ≤ W'.heap.size ∧ ∀ b, b < M → b ≠ e → W'.heap[b]? = W.heap[b]?
theorem Stay.refl (M e : Nat) (W : World) : Stay M e W W := ⟨rfl, rfl, rfl, Nat.le_refl _, fun _ _ _ => rfl⟩
theorem Stay.trans {M e : Nat} {A B C : World} (h : Stay M e A B) (k : Stay M e B C) : Stay M e A C := ⟨k.1.trans h.1, k.2.1.trans h.2.1, k.2.2.1.trans h.2.2.1, Nat.le_trans h.2.2.2.1 k.2.2.2.1, fun b h1 h2 => (k.2.2.2.2 b h1 h2).trans (h.2.2.2.2 b h1 h2)⟩
theorem Stay.size {M e : Nat} {A B : World} (h : Stay M e A B) : A.heap.size ≤ B.heap.size := h.2.2.2.1
theorem Stay.row {M e b : Nat} {T : TypeId} {cs : Array Value} {W W' : World} (h : Stay M e W W') (hr : Row W b T cs) (h1 : b < M) (h2 : b ≠ e) : Row W' b T cs := (h.2.2.2.2 b h1 h2).trans hr
theorem Stay.nodes {M e B : Nat} {W W' : World} {A : Option Addr} {n : Nat} {L : List (List Value)} (h : Stay M e W W') (hr : NodesAt W B A n L) (h1 : B ≤ M) (h2 : B ≤ e) : NodesAt W' B A n L :=
  ⟨hr.ok, hr.len, hr.reads.keep fun p hp v hv => by
    have := h.2.2.2.2 p.block (by omega) (by omega)
    unfold World.cell? at hv ⊢
    rw [this]; exact hv, hr.few⟩
theorem Stay.grown {M e : Nat} {A B : World} {r : Option Nat} (hg : A.grownBy B r) (hM : M ≤ A.heap.size) (hr : ∀ b, r = some b → b = e ∨ M ≤ b) : Stay M e A B := by
  refine ⟨hg.os, hg.tape, hg.output, hg.size, fun b h1 h2 => hg.block b (by omega) (fun e' => ?_)⟩
  rcases hr b e'.symm with h | h <;> omega
/-- What lay ahead of the box is as it was. -/
theorem Stay.toGrown {M e : Nat} {w A B : World} (h : Stay M e A B) (hg : w.grownBy A none) (h1 : w.heap.size ≤ M) (h2 : w.heap.size ≤ e) : w.grownBy B none :=
  ⟨h.1.trans hg.os, h.2.1.trans hg.tape, h.2.2.1.trans hg.output, Nat.le_trans hg.size h.size, fun b hb _ => (h.2.2.2.2 b (by omega) (by omega)).trans (hg.block b hb (by simp))⟩
theorem stay_b {M e : Nat} {w : World} (hM : M ≤ w.heap.size) (W : World) (l : Nat) (o o' : Obj) (hl : w.heap.size ≤ l) (_ : W.heap[l]? = some o) (_ : o.isCells = false) (_ : o.isWalk = false) : Stay M e W (W.putObj l o') :=
  ⟨rfl, rfl, rfl, by simp [World.putObj], fun b h1 _ => World.putObj_heap_other (by omega)⟩
section
variable {F : Fence} {nF : Nat} {P : Program} {ops : Array Oper} {rest : List Oper} {o : Oper} {a : Act} {w : World} {Q : Exit → Act → World → Prop}
theorem wpListIn_loadv (hg : o.guard = none) {T : TypeId} {x : Operand} {ad : Addr} {v : Value} (ho : o.op = .load T x) (hx : a.eval x = .pointer (some ad)) (hl : (Instr.loadAt T (.pointer (some ad))).run P w = .ok v w) (h : wpListIn F nF P ops Q rest (a.put o.dst v) w) : wpListIn F nF P ops Q (o :: rest) a w := by
  refine wpListIn_plain hg fun K' hK' => ?_
  unfold Oper.wpIn
  refine ⟨by simp [Oper.about, ho], ?_⟩
  rw [Oper.semAt_plain F _ _ (by rw [ho]; intro c hc'; cases hc')]
  simp [execOp, ho, hx, hl, Result.andThen]
  exact hK' _ _ h
end
section
variable {F : Fence} {nF : Nat} {P : Program} {ops : Array Oper} {rest : List Oper} {o : Oper} {a : Act} {w : World} {Q : Exit → Act → World → Prop}
/-- A new row, and what it holds from then on, in a fence. -/
theorem wpListIn_fresh {T : TypeId} {n : Nat} {z : Array Value} (B : Big P T n z) (hz : z.size = n) {o2 : Oper} (hgd : o.guard = none) (ho : o.op = .alloc T) (hgd2 : o2.guard = none) (x y : Operand) (ho2 : o2.op = .store T x y)
    (ds : Array Value) (hd : ds.size = n) (h1 : ∀ v ∈ ds.toList, v.oneCell' = true)
    (hx : (a.put o.dst (.pointer (some ⟨w.heap.size, 0, none⟩))).eval x = .pointer (some ⟨w.heap.size, 0, none⟩)) (hy : (a.put o.dst (.pointer (some ⟨w.heap.size, 0, none⟩))).eval y = .agg ds)
    (h : ∀ W1, w.grownBy W1 none → Row W1 w.heap.size T ds → wpListIn F nF P ops Q rest ((a.put o.dst (.pointer (some ⟨w.heap.size, 0, none⟩))).put o2.dst undef) W1) : wpListIn F nF P ops Q (o :: o2 :: rest) a w := by
  refine wpListIn_plain hgd fun K' hK' => ?_
  unfold Oper.wpIn
  refine ⟨by simp [Oper.about, ho], ?_⟩
  rw [Oper.semAt_plain F _ _ (by rw [ho]; intro c hc'; cases hc')]
  rw [exec_alloc_row B ho w]
  refine hK' _ _ (wpListIn_plain hgd2 fun K2 hK2 => ?_)
  unfold Oper.wpIn
  refine ⟨by simp [Oper.about, ho2], ?_⟩
  rw [Oper.semAt_plain F _ _ (by rw [ho2]; intro c hc'; cases hc')]
  rw [exec_store_row B ho2 hx ds hy _ (Row.new w T z) hz hd h1]
  exact hK2 _ _ (h _ (grown_new (World.grownBy_alloc w _ none) (grownBy_setRow _ _ _) (fun e h => by cases h; exact Nat.le_refl _)) ((Row.new w T z).store ds))
/-- append onto a row of the call's own, in a fence. -/
theorem wpListIn_append_Own (hgd : o.guard = none) (s x : Operand) (t : TypeId) (hop : o.op = .call { callee := .builtin .append, args := #[s, x], argTypes := #[t, t] }) (base : Nat) (e : TypeId) (ti : TypeInfo) (z : Value) (size bytes : Nat) (ht : P.underlying t = some (.slice e)) (hi : P.info? e = some ti) (hz : ti.zero = some z)
    (hsize : ti.size = size) (hby : ti.bytes = bytes) (hzs : z.cells.size = size) (hsz : 0 < size)
    (A : Option Addr) (n cap : Nat) (xs : List Value) (hs : a.eval s = .slice A n cap) (hown : Own w base e size A n cap xs)
    (T : Option Addr) (m c B : Nat) (news : List Value) (hx : a.eval x = .slice T m c) (hl : news.length = m * size) (hr : Reads w B T news) (h1 : ∀ u ∈ news, u.oneCell' = true)
    (h63 : n + m ≤ maxLen) (hbytes : (n + m) * bytes ≤ 140737488355328) (hbase : base ≤ w.heap.size)
    (h : ∀ A' cap' w', Own w' base e size A' (n + m) cap' (xs ++ news) → w.grownBy w' (rowOf A cap) → (A' = A ∧ cap' = cap ∨ A' = some ⟨w.heap.size, 0, none⟩) → wpListIn F nF P ops Q rest (a.put o.dst (.slice A' (n + m) cap')) w') : wpListIn F nF P ops Q (o :: rest) a w := by
  obtain ⟨A', cap', w', hrun, h2, h3, h4⟩ := run_append_Own (P := P) w base t o.type e ti z size bytes ht hi hz hsize hby hzs hsz A n cap xs hown T m c B news hl hr h1 h63 hbytes hbase
  refine wpListIn_plain hgd fun K' hK' => ?_
  unfold Oper.wpIn
  refine ⟨by simp [Oper.about, hop, resolve, Target.leads, Sem.run_pure], ?_⟩
  rw [Oper.semAt_plain F _ _ (by rw [hop]; intro c hc'; cases hc')]
  have : (execOp a.eval o).run P w = .ok (.value (.slice A' (n + m) cap')) w' := by
    unfold execOp
    simp only [hop, resolve, invoke, builtin, Sem.run_bind, Sem.run_pure, Result.andThen_ok, List.map_toArray, List.map_cons, List.map_nil, hs, hx, hrun]
  rw [this]
  exact hK' _ _ (h A' cap' w' h2 h3 h4)
end
/-- The places of a node's tree, but its own. -/
def belowL (L : List (List Value)) (n t : Nat) : List Nat := List.range' (t + 1) (endN (dp L) n t - (t + 1))
theorem below_snoc (t k : Nat) (h : t + 1 ≤ k) : List.range' (t + 1) (k + 1 - (t + 1)) = List.range' (t + 1) (k - (t + 1)) ++ [k] := by
  rw [show k + 1 - (t + 1) = (k - (t + 1)) + 1 by omega, List.range'_concat]
  congr 2
  omega
attribute [local go_sem] Oper.semAt_some
set_option maxRecDepth 100000 in
set_option maxHeartbeats 2000000 in
theorem below1_in (m : Nat) (hm : 1 ≤ m) (l Bd Bt n₀ M e : Nat) (A : Option Addr) (n c : Nat) (x : Int) (t : Nat) (ht : t < n) (L : List (List Value)) (J Jx : List (Fin n) → World → Prop) (BJ : Nat) (hJa : AbidesFrom BJ J)
    (hY : ∀ pre (i : Fin n) W, J pre W → pre.length < n → YieldAt Fence.wide (m - 1) Try.prog l #[.int .i64 ((i.val : Nat) : Int), .agg (nd L i.val).toArray] W fun e' W' =>
      (e' = .returned (.bool true) ∧ J (pre ++ [i]) W' ∧ Stay M e W W') ∨ (e' = .returned (.bool false) ∧ Jx (pre ++ [i]) W'))
    (W : World) (hBd : Row W Bd 24 #[.slice A n c, .int .i64 x]) (hBt : Row W Bt 3 #[.int .i64 (t : Int)]) (hd1 : Bd < M) (hd2 : Bd ≠ e) (ht1 : Bt < M) (ht2 : Bt ≠ e) (hN : NodesAt W n₀ A n L) (hn1 : n₀ ≤ M) (hn2 : n₀ ≤ e) (h0 : J [] W) :
    CallsIn Fence.wide m Try.prog 63 #[.func (.yield l) #[] #[], .pointer (some ⟨Bt, 0, none⟩), .pointer (some ⟨Bd, 0, none⟩)] W fun e W' => (∃ v, e = .returned v) ∧
      ((∃ ys : List (Fin n), ys.map Fin.val = belowL L n t ∧ J ys W') ∨ (∃ pre : List (Fin n), (∃ k, k ≤ n ∧ t + 1 ≤ k ∧ k ≤ endN (dp L) n t ∧ pre.map Fin.val = List.range' (t + 1) (k - (t + 1))) ∧ Jx pre W')) := by
  have hn := hN.few
  have hgt := endN_gt (d := dp L) ht
  have hle := endN_le (d := dp L) ht
  have hin := Lib.hid (fun j (h1 : t < j) (h2 : j < endN (dp L) n t) => endN_in (d := dp L) (n := n) h1 h2)
  have hout := Lib.hid (endN_out (d := dp L) ht)
  have hbl := Lib.hid (show belowL L n t = List.range' (t + 1) (endN (dp L) n t - (t + 1)) from rfl)
  generalize endN (dp L) n t = E at *
  obtain ⟨ad, rfl, _⟩ := hN.some_ ht
  have hdt := Lib.hid (hN.dep_b ht)
  have hNh := Lib.hid hN
  have hBdh := Lib.hid hBd
  have hBth := Lib.hid hBt
  have ct0 : W.cell? ⟨Bt, 0, none⟩ = some (.int .i64 (t : Int)) := hBt.at 0
  clear hN hBd hBt
  refine callsIn_of_wp Try.func63 rfl trivial ?_ rfl
  simp only [Try.ntmps63, List.size_toArray, List.length_cons, List.length_nil, Nat.reduceAdd, Nat.reduceSub, Array.replicate_succ, Array.replicate_zero, List.push_toArray, List.append_toArray, List.nil_append, List.cons_append]
  gi_wp2
  gi_loopw [4] (fun i wr => ∃ k : Nat, t + 1 ≤ k ∧ k ≤ E ∧ i = .int .i64 k ∧ (∃ pre : List (Fin n), pre.map Fin.val = List.range' (t + 1) (k - (t + 1)) ∧ J pre wr) ∧ Stay M e W wr) (fun i _ => E - (intOf i).toNat)
  case atStart => exact ⟨t + 1, by omega, by omega, by go_num, ⟨[], by rw [Nat.sub_self]; rfl, h0⟩, Stay.refl _ _ _⟩
  case round =>
    obtain ⟨k, hk1, hk2, rfl, ⟨pre, hpre, hJ⟩, hS⟩ := hrel
    have hpl : pre.length = k - (t + 1) := by have := congrArg List.length hpre; simpa using this
    have hpre' := Lib.hid hpre
    clear ct0 hpre
    have hR := hS.row hBdh.out hd1 hd2
    have cd : wr.cell? ⟨Bd, 0, none⟩ = some (.slice (some ad) n c) := hR.at 0
    have ct : wr.cell? ⟨Bt, 0, none⟩ = some (.int .i64 (t : Int)) := (hS.row hBth.out ht1 ht2).at 0
    have hN := hS.nodes hNh.out hn1 hn2
    have hdt' := hN.dep_ ht
    clear hR
    have hJ' := Lib.hid hJ
    have hS' := Lib.hid hS
    clear hJ hS
    by_cases hkE : k < E
    · have hlt : k < n := by omega
      have hdk := hN.dep_ hlt
      have hld := Lib.hid (hN.load hlt)
      have hdd : decide (dp L t < dp L k) = true := decide_eq_true (hin.out k (by omega) hkE)
      have hN' := Lib.hid hN
      clear hN
      have hb1 := hdt.out
      generalize dp L t = dt at *
      generalize dp L k = dk at *
      have HL := Lib.hid (fun q => (hN'.out.grown0 (grown_drewN (World.grownBy.refl _ none) q)).load hlt)
      have HJ := Lib.hid (fun q => hJa _ _ _ none hJ'.out (grown_drewN (World.grownBy.refl wr none) q) (fun r e => by cases e))
      have HY := Lib.hid (fun q => hY _ (⟨k, hlt⟩ : Fin n) (wr.drewN q) (HJ.out q) (by omega))
      have hsn := Lib.hid (show (pre ++ [(⟨k, hlt⟩ : Fin n)]).map Fin.val = List.range' (t + 1) (k + 1 - (t + 1)) by rw [List.map_append, hpre'.out, below_snoc t k hk1]; rfl)
      dsimp only at HY
      generalize nd L k = y at *
      gi_wp2
      gi_quiet (fail)
      have hld := Lib.hid (HL.out nq)
      obtain ⟨fn, tmps, assign, body, hy, hR⟩ := HY.out nq
      clear HL HY
      have hSd : Stay M e wr (wr.drewN nq) := ⟨rfl, rfl, rfl, Nat.le_refl _, fun _ _ _ => rfl⟩
      generalize wr.drewN nq = wd at *
      have cd2 : wd.cell? ⟨Bd, 0, none⟩ = some (.slice (some ad) n c) := ((hS'.out.trans hSd).row hBdh.out hd1 hd2).at 0
      gi_wp2_with (refine wpListIn_loadv rfl rfl rfl hld.out ?_; simp only [Act.put, List.setIfInBounds_toArray, List.set_cons_zero, List.set_cons_succ])
      refine hR.mono ?_
      rintro e' W3 (⟨rfl, hJ3, hk3⟩ | ⟨rfl, hJx3⟩)
      · gi_wp2
        go_roundw
        case rel => exact ⟨k + 1, by omega, by omega, by go_num, ⟨_, hsn.out, hJ3⟩, (hS'.out.trans hSd).trans hk3⟩
        case measure => simp [intOf]; omega
      · gi_wp2
        refine bodyPost_ret (results_none rfl _ _ _) rfl ?_
        exact ⟨⟨_, rfl⟩, .inr ⟨_, ⟨k + 1, by omega, by omega, by omega, hsn.out⟩, hJx3⟩⟩
    · obtain rfl : k = E := by omega
      have HJ := Lib.hid (fun q => hJa _ _ _ none hJ'.out (grown_drewN (World.grownBy.refl wr none) q) (fun r e => by cases e))
      rcases hout.out with hE | hE
      · have hd : decide (k < n) = false := by simp; omega
        clear hE hN
        have hb1 := hdt.out
        generalize dp L t = dt at *
        gi_wp2
        gi_quiet (fail)
        gi_wp2
        go_end0
        exact ⟨⟨_, rfl⟩, .inl ⟨_, hpre'.out.trans hbl.out.symm, HJ.out _⟩⟩
      · by_cases hkn : k = n
        · have hd : decide (k < n) = false := by simp; omega
          clear hE hN hkn
          have hb1 := hdt.out
          generalize dp L t = dt at *
          gi_wp2
          gi_quiet (fail)
          gi_wp2
          go_end0
          exact ⟨⟨_, rfl⟩, .inl ⟨_, hpre'.out.trans hbl.out.symm, HJ.out _⟩⟩
        · have hlt : k < n := by omega
          have hdk := hN.dep_ hlt
          have hdd : decide (dp L t < dp L k) = false := decide_eq_false (by omega)
          clear hN hE
          have hb1 := hdt.out
          generalize dp L t = dt at *
          generalize dp L k = dk at *
          gi_wp2
          gi_quiet (fail)
          gi_wp2
          go_end0
          exact ⟨⟨_, rfl⟩, .inl ⟨_, hpre'.out.trans hbl.out.symm, HJ.out _⟩⟩
end Go.Proofs.Ytjnbfgogmhfbiaa
