/- The mutations: a document behind a pointer; cut, remove. -/
import Derived.Test.YtjnbfgogmhfbiaaVg
import Derived.StillTailTactics
namespace Go.Proofs.Ytjnbfgogmhfbiaa
open Go Go.RowKit
/-- But for a document's box and its nodes' row all stays. -/
structure Mut (w w' : World) (p : Nat) (q : Option Nat) : Prop where
  os : w'.os = w.os
  tape : w'.tape = w.tape
  output : w'.output = w.output
  size : w.heap.size ≤ w'.heap.size
  block : ∀ i, i < w.heap.size → i ≠ p → some i ≠ q → w'.heap[i]? = w.heap[i]?
theorem Mut.refl (w : World) (p : Nat) (q : Option Nat) : Mut w w p q := ⟨rfl, rfl, rfl, Nat.le_refl _, fun _ _ _ _ => rfl⟩
theorem Mut.ofGrown {w w' : World} {p : Nat} {q row : Option Nat} (h : w.grownBy w' row) (hr : row = none ∨ row = some p ∨ row = q) : Mut w w' p q :=
  ⟨h.os, h.tape, h.output, h.size, fun i hi hp hq => h.block i hi (fun e => by
    rcases hr with rfl | rfl | rfl
    · cases e
    · exact hp (Option.some.inj e)
    · exact hq e)⟩
theorem Mut.trans {a b c : World} {p : Nat} {q q' : Option Nat} (h : Mut a b p q) (k : Mut b c p q') (hq : q' = q ∨ ∀ g, q' = some g → a.heap.size ≤ g) : Mut a c p q :=
  ⟨k.os.trans h.os, k.tape.trans h.tape, k.output.trans h.output, Nat.le_trans h.size k.size, fun i hi hp hne => (k.block i (Nat.lt_of_lt_of_le hi h.size) hp (fun e => by
    rcases hq with rfl | hq
    · exact hne e
    · have := hq i e.symm
      omega)).trans (h.block i hi hp hne)⟩
theorem Mut.toGrown {w a b : World} {p : Nat} {q : Option Nat} (h : Mut a b p q) (hg : w.grownBy a none) (hp : w.heap.size ≤ p) (hq : ∀ g, q = some g → w.heap.size ≤ g) : w.grownBy b none :=
  ⟨h.os.trans hg.os, h.tape.trans hg.tape, h.output.trans hg.output, Nat.le_trans hg.size h.size, fun i hi _ => (h.block i (Nat.lt_of_lt_of_le hi hg.size) (by omega) (fun e => by have := hq i e.symm; omega)).trans (hg.block i hi (by simp))⟩
theorem Mut.row {w w' : World} {p g : Nat} {q : Option Nat} {T : TypeId} {cs : Array Value} (h : Mut w w' p q) (hr : Row w g T cs) (hp : g ≠ p) (hq : some g ≠ q) : Row w' g T cs := (h.block g hr.lt hp hq).trans hr
/-- A document behind a pointer, its nodes a row of the call's own. -/
structure DocAt (w : World) (B p : Nat) (A : Option Addr) (n c : Nat) (L : List (List Value)) (x : Int) : Prop where
  two : Two w p 24 (.slice A n c) (.int .i64 x)
  own : Own w B 32 51 A n c L.flatten
  ok : ∀ y ∈ L, OkAll nodeLs y
  few : n ≤ 700
theorem DocAt.len {w : World} {B p n c : Nat} {A : Option Addr} {L : List (List Value)} {x : Int} (h : DocAt w B p A n c L x) : L.length = n := by
  have h1 := h.own.len
  have h2 := nodes_len h.ok
  omega
theorem DocAt.nodes {w : World} {B p n c : Nat} {A : Option Addr} {L : List (List Value)} {x : Int} (h : DocAt w B p A n c L x) : NodesAt w w.heap.size A n L := ⟨h.ok, h.len, h.own.reads, by have := h.few; omega⟩
theorem DocAt.grown {w w' : World} {B p n c : Nat} {A : Option Addr} {L : List (List Value)} {x : Int} (h : DocAt w B p A n c L x) (hg : w.grownBy w' none) : DocAt w' B p A n c L x := ⟨h.two.kept hg (by simp), h.own.grown0 hg, h.ok, h.few⟩
theorem DocAt.row_ne {w : World} {B p n c : Nat} {A : Option Addr} {L : List (List Value)} {x : Int} (h : DocAt w B p A n c L x) : rowOf A c ≠ some p := fun e => by
  obtain ⟨cur, hcur⟩ := h.own.row_of e
  have h2 := h.two
  unfold Two at h2
  rw [hcur] at h2
  cases h2
theorem DocAt.cells {w : World} {B p n c : Nat} {A : Option Addr} {L : List (List Value)} {x : Int} (h : DocAt w B p A n c L x) : w.cell? ⟨p, 0, none⟩ = some (.slice A n c) ∧ w.cell? ⟨p, 1, none⟩ = some (.int .i64 x) := ⟨h.two.c0, h.two.c1⟩
/-- The row may have been written, or laid anew: the box's first cell is stored. -/
theorem DocAt.put {w w' : World} {B p n c n' c' : Nat} {A A' : Option Addr} {L L' : List (List Value)} {x : Int} (h : DocAt w B p A n c L x) (hg : w.grownBy w' (rowOf A c)) (ho : Own w' B 32 51 A' n' c' L'.flatten) (hok : ∀ y ∈ L', OkAll nodeLs y) (hf : n' ≤ 700) :
    DocAt (w'.setCell ⟨p, 0, none⟩ (.slice A' n' c')) B p A' n' c' L' x ∧ Mut w (w'.setCell ⟨p, 0, none⟩ (.slice A' n' c')) p (rowOf A c) := by
  have h2 := h.two.kept hg (Ne.symm h.row_ne)
  exact ⟨⟨h2.s0 _, ho.kept_ (grownBy_setCell _ _ _ _) h2 (by decide), hok, hf⟩, (Mut.ofGrown hg (.inr (.inr rfl))).trans (Mut.ofGrown (grownBy_setCell _ _ _ _) (.inr (.inl rfl))) (.inl rfl)⟩
theorem Own.apart_ {w : World} {base e size n c c' : Nat} {A A' : Option Addr} {xs : List Value} (h : Own w base e size A n c xs) (h' : ∀ g, rowOf A' c' = some g → w.heap.size ≤ g) (hc : 0 < c) : rowOf A' c' ≠ rowOf A c := fun e' => by
  obtain ⟨g, cur, rfl, _, hg, _⟩ := h.block_ hc
  have hr : rowOf (some (⟨g, 0, none⟩ : Addr)) c = some g := by unfold rowOf; rw [if_neg (by omega)]; rfl
  rw [hr] at e'
  have := h' g e'
  have := (Array.getElem?_eq_some_iff.1 hg).1
  omega
theorem sub_ok {L : List (List Value)} (h : ∀ y ∈ L, OkAll nodeLs y) (a k : Nat) : ∀ y ∈ (L.drop a).take k, OkAll nodeLs y := fun y hy => h y (List.mem_of_mem_drop (List.mem_of_mem_take hy))
theorem less_ok {L : List (List Value)} (h : ∀ y ∈ L, OkAll nodeLs y) (a e : Nat) : ∀ y ∈ L.take a ++ L.drop e, OkAll nodeLs y := fun y hy => by
  rcases List.mem_append.1 hy with hy | hy
  · exact h y (List.mem_of_mem_take hy)
  · exact h y (List.mem_of_mem_drop hy)
def CutPost (L : List (List Value)) (x key : Int) (B p : Nat) (A : Option Addr) (n c : Nat) (w : World) (r : Ending) (w' : World) : Prop :=
  (∃ u e : Nat, findI L key = u ∧ 0 < u ∧ u < n ∧ e = endN (dp L) n u ∧ (∃ A1 c1, r = .returned (.slice A1 (e - u) c1) ∧ Own w' w.heap.size 32 51 A1 (e - u) c1 ((L.drop u).take (e - u)).flatten) ∧ DocAt w' B p A (u + (n - e)) c (L.take u ++ L.drop e) x ∧ Mut w w' p (rowOf A c)) ∨
  (findI L key ≤ 0 ∧ r = .panicked [{ v := wrongV 70, recovered := false }] ∧ DocAt w' B p A n c L x ∧ Mut w w' p (rowOf A c))
set_option maxRecDepth 100000 in
set_option maxHeartbeats 2000000 in
theorem cut_any (B p : Nat) (A : Option Addr) (n c : Nat) (L : List (List Value)) (x key : Int) (w : World) (hD : DocAt w B p A n c L x) (hB : B ≤ w.heap.size) :
    Calls Try.prog 40 #[.pointer (some ⟨p, 0, none⟩), .int .i64 key] w (CutPost L x key B p A n c w) := by
  have hD' := Lib.hid hD
  have hB' := Lib.hid hB
  have hf := hD.few
  have hnc := hD.own.2.1
  have hcm : c ≤ 9223372036854775807 := by have := hD.own.2.2.1; unfold maxLen at this; exact this
  have CP := Lib.hid (fun W (hg : w.grownBy W none) => place_any A n c L x key W (hD.grown hg).nodes)
  have HB := Lib.hid (fun W (hg : w.grownBy W none) => (hD.grown hg).cells)
  clear hD hB
  have hr := World.grownBy.refl w none
  obtain ⟨c0, c1⟩ := HB.out _ hr
  go_enter Try.func40, Try.ntmps40
  go_wp2_with fail
  refine (CP.out _ hr).mono ?_; rintro r w1 ⟨hres, hg1⟩
  clear c0 c1 hr
  rcases hres with ⟨hf1, rfl⟩ | ⟨hf1, rfl⟩
  · obtain ⟨u, hu, hul, _⟩ := findI_spec hf1
    rw [hu]
    have hu' := Lib.hid hu
    have hun : u < n := by have := hD'.out.len; omega
    clear hu hf1 hul
    by_cases h0 : 0 < u
    · have d0 : decide ((0 : Int) < (u : Int)) = true := decide_eq_true (by omega)
      have d1 : decide ((u : Int) > (0 : Int)) = true := decide_eq_true (by omega)
      go_wp2_with fail
      refine (must_yes 70 w1).mono ?_; rintro r w2 ⟨rfl, rfl⟩
      obtain ⟨c0, c1⟩ := HB.out _ hg1
      have CE := end_in A n c x u L w2 (hD'.out.grown hg1).nodes hun
      obtain ⟨e, he⟩ : ∃ e, e = endN (dp L) n u := ⟨_, rfl⟩
      rw [← he] at CE
      have he1 : u < e := by rw [he]; exact endN_gt hun
      have he2 : e ≤ n := by rw [he]; exact endN_le hun
      have he' := Lib.hid he
      clear he d0 d1
      have CE' := Lib.hid CE
      clear CE
      go_wp2_with fail
      refine CE'.out.mono ?_; rintro r w3 ⟨rfl, hg2⟩
      have hg3 := grown_trans hg1 hg2
      clear c0 c1 CE' hg1 hg2
      obtain ⟨c0, c1⟩ := HB.out _ hg3
      have hD3 := hD'.out.grown hg3
      obtain ⟨g, hA, _, _, _, _⟩ := hD3.own.cells_ (by rw [hD3.own.len]; omega)
      subst hA
      have hrd : Reads w3 w3.heap.size (some ⟨g, u * 51, none⟩) ((L.drop u).take (e - u)).flatten := by
        have h1 := (hD3.own.reads.drop (k := u * 51) rfl).take ((e - u) * 51)
        rw [Addr.add_lit, Nat.zero_add] at h1
        rw [flatten_take51 (fun y hy => hD3.ok y (List.mem_of_mem_drop hy)), flatten_drop51 hD3.ok]
        exact h1
      have CC := Lib.hid (clone_nodes (some ⟨g, u * 51, none⟩) (e - u) (c - u) ((L.drop u).take (e - u)) w3 w3.heap.size (sub_ok hD3.ok _ _) (by rw [List.length_take, List.length_drop, hD3.len]; omega) hrd (by omega))
      clear hD3 hrd
      have hcu : ¬ c = u := by omega
      have i1 : (0 : Int) ≤ (u : Int) := by omega
      have i2 : (u : Int) ≤ (e : Int) := by omega
      have i3 : (e : Int) ≤ (c : Int) := by omega
      have hue : u ≤ e := by omega
      have hec : e ≤ c := by omega
      go_wp2_with fail
      refine CC.out.mono ?_; rintro r w4 ⟨A1, k1, rfl, hown1, hg4⟩
      clear c0 c1 CC
      have hg5 := grown_trans hg3 hg4
      obtain ⟨c0, c1⟩ := HB.out _ hg5
      have hD4 := hD'.out.grown hg5
      have CDl := Lib.hid (del_nodes w4 B n c u e (some ⟨g, 0, none⟩) L hD4.ok hD4.own he1 he2 (by omega))
      have hne := Own.apart_ hD'.out.own (A' := A1) (c' := k1) (fun g h => Nat.le_trans hg3.size (hown1.row_ge g h).1) (by omega)
      have hown1' := Lib.hid hown1
      have hg5' := Lib.hid hg5
      have hne' := Lib.hid hne
      clear hD4 hown1 hne hg4
      go_wp2_with fail
      refine CDl.out.mono ?_; rintro r w5 ⟨rfl, hown5, hg6⟩
      have hD4 := hD'.out.grown hg5'.out
      have hp6 := hD4.put hg6 hown5 (less_ok hD4.ok u e) (by omega)
      have hb5 := hD4.two.kept hg6 (Ne.symm hD4.row_ne)
      have f0 := hb5.f 0
      have c5 := hb5.c0
      have ho1 := (hown1'.out.grownBy_ hg6 (.inr hne'.out)).kept_ (grownBy_setCell _ p 0 (.slice (some ⟨g, 0, none⟩) (u + (n - e)) c)) hb5 (by decide)
      have hp6' := Lib.hid hp6
      have ho1' := Lib.hid ho1
      clear hD4 hp6 hb5 ho1 hown5 hg6
      go_wp2_with fail
      go_ret
      have hg3s := hg3.size
      exact .inl ⟨u, e, hu'.out, h0, hun, he'.out, ⟨A1, k1, rfl, ho1'.out.base_ hg3s⟩, hp6'.out.1, (Mut.ofGrown hg5'.out (.inl rfl)).trans hp6'.out.2 (.inl rfl)⟩
    · have d0 : decide ((0 : Int) < (u : Int)) = false := decide_eq_false (by omega)
      have d1 : decide ((u : Int) > (0 : Int)) = false := decide_eq_false (by omega)
      go_wp2_with fail
      refine (must_no 70 w1).mono ?_; rintro r w2 ⟨rfl, rfl⟩
      go_wp2_with fail
      exact ⟨rfl, .inr ⟨by rw [hu'.out]; omega, rfl, hD'.out.grown hg1, Mut.ofGrown hg1 (.inl rfl)⟩⟩
  · go_wp2_with fail
    exact ⟨rfl, .inr ⟨by omega, rfl, hD'.out.grown hg1, Mut.ofGrown hg1 (.inl rfl)⟩⟩
end Go.Proofs.Ytjnbfgogmhfbiaa
