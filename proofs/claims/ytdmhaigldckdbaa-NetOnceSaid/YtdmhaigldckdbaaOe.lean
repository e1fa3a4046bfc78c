/- The law's own: Great, same, spoil; Spoil of a flight without bytes. -/
import Derived.Test.YtdmhaigldckdbaaOd
import Derived.Test.YtdmhaigldckdbaaOa
import Derived.Test.YtdmhaigldckdbaaNq
namespace Go.Proofs.Ytdmhaigldckdbaa
open Go Go.RowKit
theorem acts_get (L : List ActV) (i : Nat) (a : ActV) (h : L[i]? = some a) (j : Nat) (hj : j < 4) : ((L.map ActV.cells).flatten)[i * 4 + j]? = a.cells[j]? := by
  rw [flatten_get 4 (by omega) _ (fun x hx => by obtain ⟨b, _, rfl⟩ := List.mem_map.1 hx; rfl), show (i * 4 + j) / 4 = i by omega, show (i * 4 + j) % 4 = j by omega, List.getElem?_map, h]
  rfl
theorem acts_len : ∀ (L : List ActV), ((L.map ActV.cells).flatten).length = L.length * 4
  | [] => rfl
  | a :: r => by
    rw [List.map_cons, List.flatten_cons, List.length_append, acts_len r, List.length_cons]
    simp [ActV.cells]
    omega
theorem add_pos (a : Addr) (k : Nat) (hk : 0 < k) : a.add k = ⟨a.block, a.off + k, none⟩ := by
  unfold Addr.add
  rw [if_neg (by omega)]
/-- The cells of an act that came in. -/
theorem IsActs.at {w W : World} {A : Option Addr} {n c : Nat} {L : List ActV} (h : IsActs w A n c L) (hg : w.grownBy W none) {i : Nat} {a : ActV} (ha : L[i]? = some a) :
    ∃ ad : Addr, A = some ad ∧ W.cell? (ad.add (i * 4)) = some (.int .u8 a.kind) ∧ W.cell? ⟨(ad.add (i * 4)).block, (ad.add (i * 4)).off + 1, none⟩ = some (.int .i64 a.K) ∧ W.cell? ⟨(ad.add (i * 4)).block, (ad.add (i * 4)).off + 2, none⟩ = some (.int .i64 a.to) ∧ W.cell? ⟨(ad.add (i * 4)).block, (ad.add (i * 4)).off + 3, none⟩ = some (.slice a.A a.l.length a.c) := by
  obtain ⟨h1, h2, h3, h4, h5⟩ := h
  have hi := (List.getElem?_eq_some_iff.1 ha).1
  obtain ⟨ad, hA, hb, hc⟩ := (h5.grown0 hg) (by rw [acts_len]; omega)
  refine ⟨ad, hA, hc _ _ (acts_get L i a ha 0 (by omega)), ?_, ?_, ?_⟩
  · rw [← add_pos (ad.add (i * 4)) 1 (by omega), add_add']
    exact hc _ _ (acts_get L i a ha 1 (by omega))
  · rw [← add_pos (ad.add (i * 4)) 2 (by omega), add_add']
    exact hc _ _ (acts_get L i a ha 2 (by omega))
  · rw [← add_pos (ad.add (i * 4)) 3 (by omega), add_add']
    exact hc _ _ (acts_get L i a ha 3 (by omega))
theorem great_any (w : World) (A : Option Addr) (n c : Nat) (L : List ActV) (h : IsActs w A n c L) :
    Calls Try.prog 9 #[.slice A n c] w fun e w' => ∃ b, e = .returned (.bool b) ∧ (b = false → n ≤ 300 ∧ ∀ a ∈ L, a.l.length ≤ 300) ∧ w.grownBy w' none := by
  have hn := h.1
  have hm : n ≤ maxLen := Nat.le_trans h.2.1 h.2.2.1
  unfold maxLen at hm
  by_cases h3 : n ≤ 300
  · have hd : decide ((300 : Int) < (n : Int)) = false := by simp; omega
    have hh := Lib.hid h
    clear h
    go_enter Try.func9, Try.ntmps9
    go_wp2_with fail
    go_loopw [3] (fun v wr => ∃ i : Nat, i ≤ n ∧ v = .int .i64 i ∧ (∀ j, j < i → ∀ a, L[j]? = some a → a.l.length ≤ 300) ∧ w.grownBy wr none) (fun v _ => n - (intOf v).toNat)
    case atStart => exact ⟨0, by omega, rfl, fun j hj => absurd hj (by omega), World.grownBy.refl _ _⟩
    case round =>
      obtain ⟨i, hi, rfl, hall, hg⟩ := hrel
      have hall' := Lib.hid hall
      clear hall
      by_cases hlt : i < n
      · obtain ⟨a, ha⟩ : ∃ a, L[i]? = some a := ⟨_, List.getElem?_eq_getElem (by omega)⟩
        obtain ⟨ad, rfl, _, _, _, e3⟩ := hh.out.at hg ha
        have hal : a.l.length ≤ 9223372036854775807 := by
          have := (hh.out.2.2.2.1 a (List.mem_of_getElem? ha)).2.2.2.2.1
          unfold maxLen at this
          omega
        have ha' := Lib.hid ha
        clear ha
        by_cases hlong : a.l.length ≤ 300
        · have hd2 : decide ((300 : Int) < (a.l.length : Int)) = false := by simp; omega
          go_wp2_with fail
          go_roundw
          case rel => exact ⟨i + 1, by omega, by go_num, fun j hj b hb => by
            rcases Nat.lt_or_ge j i with h | h
            · exact hall'.out j h b hb
            · obtain rfl : j = i := by omega
              rw [ha'.out] at hb
              cases hb
              exact hlong, hg⟩
          case measure => simp [intOf]; omega
        · have hd2 : decide ((300 : Int) < (a.l.length : Int)) = true := by simp; omega
          go_wp2_with fail
          go_ret
          exact ⟨true, rfl, fun h => (nomatch h), hg⟩
      · go_wp2_with fail
        go_ret
        refine ⟨false, rfl, fun _ => ⟨h3, fun a ha => ?_⟩, hg⟩
        obtain ⟨j, hj, rfl⟩ := List.mem_iff_getElem.1 ha
        exact hall'.out j (by omega) _ (List.getElem?_eq_getElem hj)
  · have hd : decide ((300 : Int) < (n : Int)) = true := by simp; omega
    clear h
    go_enter Try.func9, Try.ntmps9
    go_wp2_with fail
    go_ret
    exact ⟨true, rfl, fun h => (nomatch h), World.grownBy.refl _ _⟩
/-- A row's bytes written over. -/
theorem lawspoil_any (w : World) (base : Nat) (A : Option Addr) (n c : Nat) (l : List Nat) (h : Own w base 5 1 A n c (l.map byte)) (hn : n ≤ 1000000) (hb : Byt l) :
    Calls Try.prog 20 #[.slice A n c] w fun e w' => e = .returned (.tuple #[]) ∧ w.grownBy w' (rowOf A c) := by
  have hl : l.length = n := by have := h.1; simpa using this
  have hh := Lib.hid h
  have hbb := Lib.hid hb
  clear h hb
  go_enter Try.func20, Try.ntmps20
  go_wp2_with fail
  go_loopw [2] (fun v wr => ∃ (i : Nat) (m : List Nat), i ≤ n ∧ v = .int .i64 i ∧ m.length = n ∧ Byt m ∧ Own wr base 5 1 A n c (m.map byte) ∧ w.grownBy wr (rowOf A c)) (fun v _ => n - (intOf v).toNat)
  case atStart => exact ⟨0, l, by omega, rfl, hl, hbb.out, hh.out, World.grownBy.refl _ _⟩
  case round =>
    obtain ⟨i, m, hi, rfl, hm, hmb, hown, hg⟩ := hrel
    by_cases hlt : i < n
    · obtain ⟨g, rfl, hg0, hg1, hc, hf⟩ := hown.byte_at (k := i) (by omega)
      have hr : rowOf (some ⟨g, 0, none⟩) c = some g := by
        have := hown.2.1
        simp [rowOf]; omega
      have ex : bits .xor .u8 (nth m i : Int) 255 = ((nth m i ^^^ 255 : Nat) : Int) := u8_xor_nat _ 255 (hmb.nth i) (by omega)
      have hmb' := Lib.hid hmb
      have hown' := Lib.hid hown
      clear hown hmb
      go_wp2_with fail
      go_roundw
      case rel =>
        refine ⟨i + 1, m.set i (nth m i ^^^ 255), by omega, by go_num, by rw [List.length_set]; exact hm, byt_set hmb'.out (Nat.xor_lt_two_pow (n := 8) (hmb'.out.nth i) (by omega)), hown'.out.put_ _ _, ?_⟩
        rw [hr] at hg ⊢
        exact grown_trans hg (grownBy_setCell _ _ _ _)
      case measure => simp [intOf]; omega
    · go_wp2_with fail
      go_end0
      exact ⟨rfl, hg⟩
theorem rsame_yes (to : Int) (A1 A2 : Option Addr) (n c1 c2 : Nat) (l : List Nat) (w : World) (B1 B2 : Nat) (h1 : l.length = n) (r1 : Reads w B1 A1 (l.map byte)) (r2 : Reads w B2 A2 (l.map byte)) (hn : n ≤ 1000000) :
    Calls Try.prog 33 #[.agg #[.int .i64 to, .slice A1 n c1], .agg #[.int .i64 to, .slice A2 n c2]] w fun e w' => e = .returned (.bool true) ∧ w.grownBy w' none := by
  have hgW := grown_trans (World.grownBy_alloc w (.cells #[.int .i64 to, .slice A1 n c1] 51) none) (World.grownBy_alloc _ (.cells #[.int .i64 to, .slice A2 n c2] 51) none)
  have b1 := (Row.new w 51 #[.int .i64 to, .slice A1 n c1]).kept0 (World.grownBy_alloc _ (.cells #[.int .i64 to, .slice A2 n c2] 51) none)
  have b2 := Row.new (w.alloc (.cells #[.int .i64 to, .slice A1 n c1] 51)) 51 #[.int .i64 to, .slice A2 n c2]
  rw [World.size_alloc] at b2
  have CS := Lib.hid (fun W (hg : w.grownBy W none) => same_true A1 A2 n c1 n c2 l W B1 B2 h1 h1 (r1.grown0 hg) (r2.grown0 hg) hn)
  obtain ⟨c0, c3⟩ := b1.two
  obtain ⟨c4, c5⟩ := b2.two
  clear r1 r2
  go_enter Try.func33, Try.ntmps33
  go_wp2_with fail
  refine (CS.out _ hgW).mono ?_; rintro e V ⟨rfl, hg⟩
  go_wp2_with fail
  go_ret
  exact ⟨rfl, grown_trans hgW hg⟩
theorem lawsame_yes (to : Int) (A1 A2 : Option Addr) (n c1 c2 : Nat) (l : List Nat) (w : World) (B1 B2 : Nat) (h1 : l.length = n) (r1 : Reads w B1 A1 (l.map byte)) (r2 : Reads w B2 A2 (l.map byte)) (hn : n ≤ 1000000) :
    Calls Try.prog 19 #[.agg #[.int .i64 to, .slice A1 n c1], .agg #[.int .i64 to, .slice A2 n c2]] w fun e w' => e = .returned (.bool true) ∧ w.grownBy w' none := by
  have hgW := grown_trans (World.grownBy_alloc w (.cells #[.int .i64 to, .slice A1 n c1] 33) none) (World.grownBy_alloc _ (.cells #[.int .i64 to, .slice A2 n c2] 51) none)
  have b1 := (Row.new w 33 #[.int .i64 to, .slice A1 n c1]).kept0 (World.grownBy_alloc _ (.cells #[.int .i64 to, .slice A2 n c2] 51) none)
  have b2 := Row.new (w.alloc (.cells #[.int .i64 to, .slice A1 n c1] 33)) 51 #[.int .i64 to, .slice A2 n c2]
  rw [World.size_alloc] at b2
  have CS := Lib.hid (fun W (hg : w.grownBy W none) => rsame_yes to A1 A2 n c1 c2 l W B1 B2 h1 (r1.grown0 hg) (r2.grown0 hg) hn)
  obtain ⟨c0, c3⟩ := b1.two
  obtain ⟨c4, c5⟩ := b2.two
  clear r1 r2
  go_enter Try.func19, Try.ntmps19
  go_wp2_with fail
  refine (CS.out _ hgW).mono ?_; rintro e V ⟨rfl, hg⟩
  go_wp2_with fail
  go_ret
  exact ⟨rfl, grown_trans hgW hg⟩
/-- Spoil of a flight without bytes changes nothing. -/
theorem spoil_nil (w : World) (base g : Nat) (fl : List Flt) (k bit : Int) (h : NetIs w base g fl) (hp : 0 < fl.length) (x : Flt) (hx : fl[place k fl.length]? = some x) (hb : x.bs = []) :
    Calls Try.prog 16 #[.pointer (some ⟨g, 0, none⟩), .int .i64 k, .int .i64 bit] w fun e w' => e = .returned (.int .i64 0) ∧ w.grownBy w' none := by
  have hle := h.2.1
  have CP := Lib.hid (pick_net w base g fl k h hp)
  obtain ⟨A0, c0, h0, hR⟩ := h.2.2.2
  have hpl : place k fl.length < fl.length := place_lt k hp
  obtain ⟨r, rfl, hrr, _, hrl, hcr⟩ := hR.cells_ (by rw [rowF_len]; omega)
  have CA := Lib.hid (fun W => at_any W (some ⟨r, 0, none⟩) fl.length c0 (place k fl.length) r rfl hpl (by omega))
  obtain ⟨x0, x1⟩ := rowF_get fl _ x hx
  have y1 := (hcr (place k fl.length * 2 + 1) (by rw [rowF_len]; omega)).trans x1
  rw [hb] at y1
  have e1 : w.cell? ⟨g, 1, none⟩ = some (.slice (some ⟨r, 0, none⟩) fl.length c0) := by rw [cell_of_row w g 1 _ _ _ h0]; rfl
  clear h0 hR hcr x0 x1 hx h
  generalize place k fl.length = p at *
  go_enter Try.func16, Try.ntmps16
  go_wp2_with fail
  refine CP.out.mono ?_; rintro e w1 ⟨rfl, rfl⟩
  go_wp2_with fail
  refine (CA.out _).mono ?_; rintro e w1 ⟨rfl, rfl⟩
  go_wp2_with fail
  go_ret
  exact ⟨rfl, World.grownBy.refl _ _⟩
end Go.Proofs.Ytdmhaigldckdbaa
