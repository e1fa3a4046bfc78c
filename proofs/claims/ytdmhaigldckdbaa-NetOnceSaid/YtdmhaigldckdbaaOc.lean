/- The document's Take. -/
import Derived.Test.YtdmhaigldckdbaaOb
namespace Go.Proofs.Ytdmhaigldckdbaa
open Go Go.RowKit
theorem Row.one {w : World} {g : Nat} {T : TypeId} {u : Value} (h : Row w g T #[u]) : w.cell? ⟨g, 0, none⟩ = some u := h.at 0
theorem Own.dblk {w w' : World} {base b0 n cap : Nat} {A : Option Addr} {xs : List Value} (h : Own w b0 5 1 A n cap xs) (hb : But (DBlk w base) w w') : Own w' b0 5 1 A n cap xs :=
  h.but hb fun b hr ⟨_, cur, T, hc, hT⟩ => by
    obtain ⟨cur', hcur⟩ := h.row_of hr
    rw [hcur] at hc
    rcases hT with rfl | rfl <;> cases hc
theorem rtake_empty (w : World) (base g : Nat) (k : Int) (h : DocIs w base g []) :
    Calls Try.prog 18 #[.pointer (some ⟨g, 0, none⟩), .int .i64 k] w fun e w' => e = .returned (.tuple #[.agg #[.int .i64 0, .slice none 0 0], .int .i64 300]) ∧ w.grownBy w' none := by
  have hga := World.grownBy_alloc w (.cells #[.int .i64 0, .slice none 0 0] 51) none
  obtain ⟨A0, c0, h0, hR⟩ := h.2.2.2
  have e1 : (w.alloc (.cells #[.int .i64 0, .slice none 0 0] 51)).cell? ⟨g, 0, none⟩ = some (.slice A0 0 c0) := hga.cell (by rw [cell_of_row w g 0 _ _ _ h0]; rfl) (by simp)
  have bR := Row.new w 51 #[.int .i64 0, .slice none 0 0]
  obtain ⟨q0, q1⟩ := bR.two
  have f0 := bR.free 0
  have f1 := bR.free 1
  clear h h0 hR
  have hszW := World.size_alloc w (.cells #[.int .i64 0, .slice none 0 0] 51)
  go_enter Try.func18, Try.ntmps18
  go_wp2_with fail
  generalize w.alloc (.cells #[.int .i64 0, .slice none 0 0] 51) = W at *
  exact bodyPost_ret (v := .tuple #[.agg #[.int .i64 0, .slice none 0 0], .int .i64 300]) (by simp [results, Try.results18, go_sem, q0, q1]) rfl ⟨rfl, hga⟩
theorem Row.keptO {w w' : World} {g : Nat} {T : TypeId} {cs : Array Value} {r : Option Nat} (h : Row w g T cs) (hg : w.grownBy w' r) (hne : r ≠ some g) : Row w' g T cs := by
  show w'.heap[g]? = _
  rw [hg.block g h.lt (fun e => hne e.symm)]
  exact h
theorem DocIs.del {w wr w9 : World} {base g p : Nat} {dl : List Flt} (h : DocIs w base g dl) {A0 : Option Addr} {c0 : Nat} (h0 : w.heap[g]? = some (.cells #[.slice A0 dl.length c0] 62 (0, 0))) (hg : w.grownBy wr none) {A : Option Addr} {c : Nat}
    (hown : Own wr w.heap.size 51 2 A (dl.eraseIdx p).length c (rowF (dl.eraseIdx p))) (hn1 : rowOf A c ≠ some w.heap.size) {cs : Array Value} (bR : Row wr w.heap.size 51 cs) (h9 : (wr.setCell ⟨g, 0, none⟩ (.slice A (dl.eraseIdx p).length c)).grownBy w9 (some w.heap.size)) :
    DStep w w9 base g dl (dl.eraseIdx p) := by
  obtain ⟨k1, k2, k3, _⟩ := h
  have hgl := (Array.getElem?_eq_some_iff.1 h0).1
  have h0r : wr.heap[g]? = some (.cells #[.slice A0 dl.length c0] 62 (0, 0)) := by rw [hg.block g hgl (by simp)]; exact h0
  have s1 := grownBy_setCell wr g 0 (.slice A (dl.eraseIdx p).length c)
  have bR1 := bR.keptNe s1 (by omega)
  have hm : ∀ d ∈ dl.eraseIdx p, d ∈ dl := fun d hd => List.mem_of_mem_eraseIdx hd
  refine ⟨⟨k1, by have := List.length_eraseIdx_le dl p; omega, fun d hd => ⟨(k3 d (hm d hd)).1, (((k3 d (hm d hd)).2.grown0 hg).kept_ s1 h0r (by decide)).kept_ h9 bR1 (by decide)⟩, A, c, ?_, ?_⟩, ?_, fun d hd => .inl (hm d hd)⟩
  · rw [h9.block g (Nat.lt_of_lt_of_le hgl (Nat.le_trans hg.size s1.size)) (by simp; omega), heap_setCell_same wr g 0 _ _ (.slice A (dl.eraseIdx p).length c) h0r]
    simp
  · exact ((hown.base_ (by omega)).kept_ s1 h0r (by decide)).grownBy_ h9 (.inr hn1)
  · refine (But.of_grown (F := DBlk w base) hg (fun b e => by cases e)).trans (G := fun b => b = g ∨ b = w.heap.size) ((But.of_grown (F := fun b => b = g ∨ b = w.heap.size) s1 (fun b e => by cases e; exact .inl rfl)).trans (But.of_grown (F := fun b => b = g ∨ b = w.heap.size) h9 (fun b e => by cases e; exact .inr rfl)) (fun i hi => .inl hi)) (fun i hi => ?_)
    rcases hi with rfl | rfl
    · exact .inl ⟨k1, _, _, h0, .inl rfl⟩
    · exact .inr (Nat.le_refl _)
theorem take_erase_at (dl : List Flt) (p : Nat) (hp : p < dl.length) : (dl.take (p + 1)).eraseIdx p = (dl.take p).eraseIdx p := by
  rw [List.take_succ_eq_append_getElem hp, List.eraseIdx_append_of_length_le (by simp; omega), List.eraseIdx_of_length_le (l := dl.take p) (by simp; omega)]
  simp [Nat.min_eq_left (Nat.le_of_lt hp)]
theorem take_erase_ne (dl : List Flt) (p i : Nat) (x : Flt) (hx : dl[i]? = some x) (hne : i ≠ p) : (dl.take (i + 1)).eraseIdx p = (dl.take i).eraseIdx p ++ [x] := by
  obtain ⟨hi, hx'⟩ := List.getElem?_eq_some_iff.1 hx
  rw [List.take_succ_eq_append_getElem hi, hx']
  by_cases hlt : p < i
  · rw [List.eraseIdx_append_of_lt_length (by simp; omega)]
  · rw [List.eraseIdx_of_length_le (by simp; omega), List.eraseIdx_of_length_le (by simp; omega)]
set_option maxRecDepth 100000 in
set_option maxHeartbeats 2000000 in
theorem rtake_ok (w : World) (base g : Nat) (dl : List Flt) (k : Int) (h : DocIs w base g dl) (hp : 0 < dl.length) (x : Flt) (hx : dl[place k dl.length]? = some x) :
    Calls Try.prog 18 #[.pointer (some ⟨g, 0, none⟩), .int .i64 k] w fun e w' => e = .returned (.tuple #[.agg #[.int .i64 x.to, .slice x.A x.bs.length x.cap], .int .i64 0]) ∧ DStep w w' base g dl (dl.eraseIdx (place k dl.length)) := by
  have hlt0 := h.lt
  have hle := h.2.1
  have hga := World.grownBy_alloc w (.cells #[.int .i64 0, .slice none 0 0] 51) none
  have hgb := World.grownBy_alloc (w.alloc (.cells #[.int .i64 0, .slice none 0 0] 51)) (.cells #[.int .i64 0, .slice none 0 0] 51) none
  have hgV := grown_trans hga hgb
  obtain ⟨A0, c0, h0, hR⟩ := h.2.2.2
  have hpl : place k dl.length < dl.length := place_lt k hp
  have CP := Lib.hid (place_any _ base g dl k (h.grown0 hgV) hp)
  have e0 : (w.alloc (.cells #[.int .i64 0, .slice none 0 0] 51)).cell? ⟨g, 0, none⟩ = some (.slice A0 dl.length c0) := hga.cell (by rw [cell_of_row w g 0 _ _ _ h0]; rfl) (by simp)
  have hd0 : ((dl.length : Int) == 0) = false := beq_eq_false_iff_ne.2 (by omega)
  have bR := (Row.new w 51 #[.int .i64 0, .slice none 0 0]).kept0 hgb
  have bB := Row.new (w.alloc (.cells #[.int .i64 0, .slice none 0 0] 51)) 51 #[.int .i64 0, .slice none 0 0]
  rw [World.size_alloc] at bB
  have hszV : ((w.alloc (.cells #[.int .i64 0, .slice none 0 0] 51)).alloc (.cells #[.int .i64 0, .slice none 0 0] 51)).heap.size = w.heap.size + 2 := by simp
  obtain ⟨i0, hi0, hz0, hz1, hz2⟩ := info_parts infoRF
  have hxx := Lib.hid hx
  have hh := Lib.hid h
  have hh0 := Lib.hid h0
  have hhR := Lib.hid hR
  clear h h0 hR hx
  generalize place k dl.length = p at *
  go_enter Try.func18, Try.ntmps18
  go_wp2_with fail
  generalize (w.alloc (.cells #[.int .i64 0, .slice none 0 0] 51)).alloc (.cells #[.int .i64 0, .slice none 0 0] 51) = V at *
  refine CP.out.mono ?_; rintro e w1 ⟨rfl, rfl⟩
  go_wp2_with fail
  go_loopw [6, 9] (fun o v wr => ∃ (i : Nat) (A : Option Addr) (c : Nat), i ≤ dl.length ∧ o = .slice A ((dl.take i).eraseIdx p).length c ∧ v = .int .i64 i ∧ Own wr w.heap.size 51 2 A ((dl.take i).eraseIdx p).length c (rowF ((dl.take i).eraseIdx p)) ∧
    Row wr w.heap.size 51 #[.int .i64 0, .slice none 0 0] ∧ (p < i ∧ Row wr (w.heap.size + 1) 51 #[.int .i64 x.to, .slice x.A x.bs.length x.cap] ∨ i ≤ p ∧ Row wr (w.heap.size + 1) 51 #[.int .i64 0, .slice none 0 0]) ∧ rowOf A c ≠ some w.heap.size ∧ rowOf A c ≠ some (w.heap.size + 1) ∧ w.grownBy wr none) (fun _ v _ => dl.length - (intOf v).toNat)
  case atStart => exact ⟨0, none, 0, by omega, rfl, rfl, Own.nil_ _ _ _ _ _, bR, .inr ⟨by omega, bB⟩, by simp [rowOf], by simp [rowOf], hgV⟩
  case round =>
    obtain ⟨i, A, c, hi, rfl, rfl, hown, hbR, hbB, hn1, hn2, hg⟩ := hrel
    have z0 : wr.cell? ⟨g, 0, none⟩ = some (.slice A0 dl.length c0) := hg.cell (by rw [cell_of_row w g 0 _ _ _ hh0.out]; rfl) (by simp)
    by_cases hlt : i < dl.length
    · obtain ⟨y, hy⟩ : ∃ y, dl[i]? = some y := ⟨_, List.getElem?_eq_getElem hlt⟩
      obtain ⟨r, rfl, hr0, _, hrl, hcr⟩ := hhR.out.cells_ (by rw [rowF_len]; omega)
      obtain ⟨x0, x1⟩ := rowF_get dl _ y hy
      have y0 := hg.cell ((hcr (i * 2) (by rw [rowF_len]; omega)).trans x0) (by simp)
      have y1 := hg.cell ((hcr (i * 2 + 1) (by rw [rowF_len]; omega)).trans x1) (by simp)
      have hyy := Lib.hid hy
      have hown' := Lib.hid hown
      have hn1' := Lib.hid hn1
      have hn2' := Lib.hid hn2
      clear hy hown hcr x0 x1 hn1 hn2
      by_cases hip : i = p
      · subst hip
        obtain rfl : y = x := by
          have a := hxx.out
          have b := hyy.out
          rw [a] at b
          exact (Option.some.inj b).symm
        have hbB' : Row wr (w.heap.size + 1) 51 #[.int .i64 0, .slice none 0 0] := by
          rcases hbB with ⟨h1, _⟩ | ⟨_, h1⟩
          · omega
          · exact h1
        have f0 := hbB'.free 0
        have f1 := hbB'.free 1
        obtain ⟨q0, q1⟩ := hbB'.two
        have hlist := Lib.hid (take_erase_at dl i hlt)
        have hbBh := Lib.hid hbB'
        have hbRh := Lib.hid hbR
        clear hbB hbB' hbR
        generalize (dl.take i).eraseIdx i = L at *
        go_wp2_with fail
        go_roundw
        case rel =>
          have s1 := grownBy_setCell wr (w.heap.size + 1) 0 (.int .i64 y.to)
          have s2 := grownBy_setCell (wr.setCell ⟨w.heap.size + 1, 0, none⟩ (.int .i64 y.to)) (w.heap.size + 1) 1 (.slice y.A y.bs.length y.cap)
          refine ⟨i + 1, A, c, by omega, by rw [hlist.out], by go_num, ?_, ?_, .inl ⟨by omega, ?_⟩, hn1'.out, hn2'.out, ?_⟩
          · rw [hlist.out]
            exact (hown'.out.grownBy_ s1 (.inr hn2'.out)).grownBy_ s2 (.inr hn2'.out)
          · exact (hbRh.out.keptNe s1 (by omega)).keptNe s2 (by omega)
          · have := (hbBh.out.set 0 (.int .i64 y.to)).set 1 (.slice y.A y.bs.length y.cap)
            simpa using this
          · exact grown_new (grown_new hg s1 (fun b e => by cases e; omega)) s2 (fun b e => by cases e; omega)
        case measure => simp [intOf]; omega
      · have hb : ((i : Int) == (p : Int)) = false := by simp; omega
        have hlist := Lib.hid (take_erase_ne dl p i y hyy.out hip)
        have hbBh := Lib.hid hbB
        have hbRh := Lib.hid hbR
        have hLl : ((dl.take i).eraseIdx p).length ≤ 64 := by
          have := List.length_eraseIdx_le (dl.take i) p
          have := List.length_take_le i dl
          omega
        clear hbB hbR
        generalize (dl.take i).eraseIdx p = L at *
        obtain ⟨n, hn⟩ : ∃ n, n = L.length := ⟨_, rfl⟩
        rw [← hn] at hLl
        have hown2 := hown'.out
        rw [← hn] at hown2
        have hown3 := Lib.hid hown2
        have hnh := Lib.hid hn
        rw [← hn]
        clear hn hown2
        have hgc := World.grownBy_alloc wr (.cells #[.int .i64 y.to, .slice y.A y.bs.length y.cap] 51) none
        have hr2 := Lib.hid (Row.new wr 51 #[.int .i64 y.to, .slice y.A y.bs.length y.cap]).reads2
        have hRo := Lib.hid (hown3.out.grown0 hgc)
        have hbs := Lib.hid (Nat.le_trans hg.size hgc.size)
        have hgc' := Lib.hid hgc
        clear hgc
        go_wp2_with (at_builtin; refine wpList_append_Own rfl (.tmp 39) (.tmp 47) 60 rfl w.heap.size 51 i0 _ 2 32 Try.underlying60 hi0 hz0 hz1 hz2 rfl (by omega) A n c (rowF L) rfl hRo.out (some ⟨wr.heap.size, 0, none⟩) 1 1 _ [.int .i64 y.to, .slice y.A y.bs.length y.cap] rfl rfl hr2.out (by simp [Value.oneCell']) (by simp only [maxLen]; omega) (by omega) hbs.out ?_; intro A1 c1 w6 h6 hg6 hA6)
        go_roundw
        case rel =>
          have hgq := hgc'.out
          have hbR1 := (hbRh.out.kept0 hgq).keptO hg6 hn1'.out
          refine ⟨i + 1, A1, c1, by omega, by rw [hlist.out, List.length_append, ← hnh.out]; rfl, by go_num, ?_, hbR1, ?_, ?_, ?_, grown_new (grown_trans hg hgq) hg6 (fun b hb => (hRo.out.row_ge b hb).1)⟩
          · rw [hlist.out, rowF_snoc, List.length_append, ← hnh.out]
            exact h6
          · rcases hbBh.out with ⟨h1, h2⟩ | ⟨h1, h2⟩
            · exact .inl ⟨by omega, (h2.kept0 hgq).keptO hg6 hn2'.out⟩
            · exact .inr ⟨by omega, (h2.kept0 hgq).keptO hg6 hn2'.out⟩
          · rcases hA6 with ⟨rfl, rfl⟩ | rfl
            · exact hn1'.out
            · have := hg.size
              have := hgq.size
              unfold rowOf
              split <;> simp
              omega
          · rcases hA6 with ⟨rfl, rfl⟩ | rfl
            · exact hn2'.out
            · have := hbRh.out.lt
              have := hbs.out
              have := hg.size
              have := hgq.size
              have h4 : w.heap.size + 1 < wr.heap.size := by
                rcases hbBh.out with ⟨_, h2⟩ | ⟨_, h2⟩
                · exact h2.lt
                · exact h2.lt
              unfold rowOf
              split <;> simp
              omega
        case measure => simp [intOf]; omega
    · obtain rfl : i = dl.length := by omega
      rw [List.take_length] at hown ⊢
      have hbB' : Row wr (w.heap.size + 1) 51 #[.int .i64 x.to, .slice x.A x.bs.length x.cap] := by
        rcases hbB with ⟨_, h1⟩ | ⟨h1, _⟩
        · exact h1
        · omega
      have h0r : wr.heap[g]? = some (.cells #[.slice A0 dl.length c0] 62 (0, 0)) := by rw [hg.block g hlt0 (by simp)]; exact hh0.out
      have fg := frozen_of_row wr g 0 _ _ h0r
      have s1 := grownBy_setCell wr g 0 (.slice A (dl.eraseIdx p).length c)
      have hbR1 := hbR.keptNe s1 (by omega)
      have hbB1 := hbB'.keptNe s1 (by omega)
      obtain ⟨u0, u1⟩ := hbB1.two
      obtain ⟨r0, r1⟩ := hbR1.two
      have r2 := hbR1.free 0
      have r3 := hbR1.free 1
      have hDel := Lib.hid (fun w9 h9 => hh.out.del (w9 := w9) hh0.out hg hown hn1 hbR h9)
      have f9 := (hbR1.set 0 (.int .i64 x.to)).set 1 (.slice x.A x.bs.length x.cap)
      clear hbR hbB hbB' h0r hown hbB1
      go_wp2_with fail
      have g0 := f9.at 0
      have g1 := f9.at 1
      simp only [List.setIfInBounds_toArray, List.set_cons_zero, List.set_cons_succ, List.getElem?_toArray, List.getElem?_cons_zero, List.getElem?_cons_succ] at g0 g1
      have hfin := hDel.out _ (grown_trans (grownBy_setCell (wr.setCell ⟨g, 0, none⟩ (.slice A (dl.eraseIdx p).length c)) w.heap.size 0 (.int .i64 x.to)) (grownBy_setCell _ w.heap.size 1 (.slice x.A x.bs.length x.cap)))
      generalize ((wr.setCell ⟨g, 0, none⟩ (.slice A (dl.eraseIdx p).length c)).setCell ⟨w.heap.size, 0, none⟩ (.int .i64 x.to)).setCell ⟨w.heap.size, 1, none⟩ (.slice x.A x.bs.length x.cap) = w9 at *
      exact bodyPost_ret (v := .tuple #[.agg #[.int .i64 x.to, .slice x.A x.bs.length x.cap], .int .i64 0]) (by simp [results, Try.results18, go_sem, g0, g1]) rfl ⟨rfl, hfin⟩
end Go.Proofs.Ytdmhaigldckdbaa
