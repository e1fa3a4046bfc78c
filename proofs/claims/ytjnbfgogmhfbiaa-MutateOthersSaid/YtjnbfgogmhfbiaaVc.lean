/- The mutations: gap. -/
import Derived.Deep.RegionWith
import Derived.Test.YtjnbfgogmhfbiaaVb
namespace Go.Proofs.Ytjnbfgogmhfbiaa
open Go Go.RowKit
theorem findI_spec {L : List (List Value)} {key : Int} (h : 0 ≤ findI L key) : ∃ u : Nat, findI L key = u ∧ u < L.length ∧ keyN (nd L u) = key := by
  unfold findI at h ⊢
  cases hk : L.findIdx? (fun x => keyN x == key) with
  | none =>
    rw [hk] at h
    simp at h
  | some k =>
    obtain ⟨h1, h2, _⟩ := List.findIdx?_eq_some_iff_getElem.1 hk
    refine ⟨k, by simp, h1, ?_⟩
    unfold nd
    rw [List.getElem?_eq_getElem h1]
    simpa using h2
/-- The place at which a kid of a number will stand. -/
def gapAt (L : List (List Value)) (u k : Nat) : Nat := ((kidsN (dp L) L.length u)[k]?).getD (endN (dp L) L.length u)
def GapYes (L : List (List Value)) (parent number : Int) (u k : Nat) : Prop :=
  findI L parent = u ∧ u < L.length ∧ kindN (nd L u) = 0 ∧ number = k ∧ k ≤ (kidsN (dp L) L.length u).length
def GapPost (L : List (List Value)) (parent number : Int) (w : World) (r : Ending) (w' : World) : Prop :=
  ((∃ u k : Nat, GapYes L parent number u k ∧ r = .returned (.tuple #[.int .i64 (gapAt L u k : Int), .int .i64 (dp L u + 1)])) ∨
    (¬ ∃ u k : Nat, GapYes L parent number u k) ∧ r = .panicked [{ v := wrongV 70, recovered := false }]) ∧ w.grownBy w' none
set_option maxRecDepth 100000 in
set_option maxHeartbeats 2000000 in
theorem gap_any (A : Option Addr) (n c : Nat) (L : List (List Value)) (x parent number : Int) (w : World) (hN : NodesAt w w.heap.size A n L) (hdp : ∀ i, i < n → -1 ≤ dp L i ∧ dp L i ≤ 1000) :
    Calls Try.prog 38 #[.agg #[.slice A n c, .int .i64 x], .int .i64 parent, .int .i64 number] w (GapPost L parent number w) := by
  have hn := hN.few
  have hln := hN.len
  have hg0 := World.grownBy_alloc w (.cells #[.slice A n c, .int .i64 x] 24) none
  have b0 := Row.new w 24 #[.slice A n c, .int .i64 x]
  have HB := Lib.hid (fun W (hg : (w.alloc (.cells #[.slice A n c, .int .i64 x] 24)).grownBy W none) => show W.cell? ⟨w.heap.size, 0, none⟩ = some (.slice A n c) ∧ W.cell? ⟨w.heap.size, 1, none⟩ = some (.int .i64 x) from ⟨(b0.kept0 hg).at 0, (b0.kept0 hg).at 1⟩)
  have hNW := Lib.hid (fun W (hg : (w.alloc (.cells #[.slice A n c, .int .i64 x] 24)).grownBy W none) => hN.grow (grown_trans hg0 hg))
  have CP := Lib.hid (fun W (hg : (w.alloc (.cells #[.slice A n c, .int .i64 x] 24)).grownBy W none) => place_any A n c L x parent W (hNW.out W hg))
  have hdp' := Lib.hid hdp
  have hg0' := Lib.hid hg0
  have hl' := Lib.hid hln
  clear hN b0 hg0 hdp hln
  go_enter Try.func38, Try.ntmps38
  have hr := World.grownBy.refl (w.alloc (.cells #[.slice A n c, .int .i64 x] 24)) none
  obtain ⟨c0, c1⟩ := HB.out _ hr
  go_wp2_with fail
  refine (CP.out _ hr).mono ?_; rintro r w1 ⟨hres, hg1⟩
  clear c0 c1 hr
  obtain ⟨c0, c1⟩ := HB.out _ hg1
  rcases hres with ⟨hf, rfl⟩ | ⟨hf, rfl⟩
  · obtain ⟨u, hu, hul, _⟩ := findI_spec hf
    rw [hu]
    have hu' := Lib.hid hu
    have hun : u < n := by have := hl'.out; omega
    clear hu hf hul
    have CK := Lib.hid (fun W (hg : (w.alloc (.cells #[.slice A n c, .int .i64 x] 24)).grownBy W none) => kids_in A n c x u L W (hNW.out W hg) hun hdp'.out)
    have CE := Lib.hid (fun W (hg : (w.alloc (.cells #[.slice A n c, .int .i64 x] 24)).grownBy W none) => end_in A n c x u L W (hNW.out W hg) hun)
    go_wp2_with fail
    refine (CK.out _ hg1).mono ?_; rintro r w2 ⟨A', c', rfl, hown, hg2⟩
    replace hg1 := grown_trans hg1 hg2
    clear c0 c1 CK CP hg2
    obtain ⟨c0, c1⟩ := HB.out _ hg1
    have hown' := Lib.hid hown
    clear hown
    obtain ⟨ad, rfl, _⟩ := (hNW.out _ hg1).some_ hun
    have zk := (hNW.out _ hg1).kind_ hun
    have zd := (hNW.out _ hg1).dep_ hun
    obtain ⟨bd1, bd2⟩ := hdp'.out u hun
    have hkn := Lib.hid (show (kidsN (dp L) n u).length = (kidsN (dp L) n u).length from rfl)
    obtain ⟨K, hK⟩ : ∃ K, (kidsN (dp L) n u).length = K := ⟨_, rfl⟩
    have hK' := Lib.hid hK
    simp only [hK]
    clear hK hkn
    have hno : ∀ {P : Prop}, (P → False) → ¬ P := fun h => h
    have hug : ∀ u' k', GapYes L parent number u' k' → u' = u ∧ kindN (nd L u) = 0 ∧ number = (k' : Int) ∧ k' ≤ K := fun u' k' h => by
      obtain ⟨h1, h2, h3, h4, h5⟩ := h
      have : u' = u := by have := hu'.out; omega
      subst this
      rw [hl'.out, hK'.out] at h5
      exact ⟨rfl, h3, h4, h5⟩
    have hug' := Lib.hid hug
    clear hug hno
    by_cases hk : kindN (nd L u) = 0
    · rcases (by omega : number < 0 ∨ (0 ≤ number ∧ (K : Int) < number) ∨ (0 ≤ number ∧ number ≤ K)) with h | ⟨h1, h⟩ | ⟨h1, h2⟩
      · have d0 : decide (0 ≤ number) = false := decide_eq_false (by omega)
        rw [hk] at zk
        have hh := Lib.hid h
        clear h
        go_wp2_with fail
        refine (must_no 70 w2).mono ?_; rintro r w3 ⟨rfl, rfl⟩
        go_wp2_with fail
        exact ⟨rfl, .inr ⟨fun ⟨u', k', h⟩ => by have := hug'.out u' k' h; have := hh.out; omega, rfl⟩, grown_trans hg0'.out hg1⟩
      · have d0 : decide (0 ≤ number) = true := decide_eq_true h1
        have d1 : decide (number ≤ (K : Int)) = false := decide_eq_false (by omega)
        rw [hk] at zk
        have hh := Lib.hid h
        clear h h1
        go_wp2_with fail
        refine (must_no 70 w2).mono ?_; rintro r w3 ⟨rfl, rfl⟩
        go_wp2_with fail
        exact ⟨rfl, .inr ⟨fun ⟨u', k', h⟩ => by have := hug'.out u' k' h; have := hh.out; omega, rfl⟩, grown_trans hg0'.out hg1⟩
      · have d0 : decide (0 ≤ number) = true := decide_eq_true h1
        have d1 : decide (number ≤ (K : Int)) = true := decide_eq_true h2
        rw [hk] at zk
        have hk' := Lib.hid hk
        clear hk
        go_wp2_with fail
        refine (must_yes 70 w2).mono ?_; rintro r w3 ⟨rfl, rfl⟩
        obtain ⟨k, rfl⟩ := Int.eq_ofNat_of_zero_le h1
        have hkK : k ≤ K := by omega
        have hyes := Lib.hid (show GapYes L parent (k : Int) u k from ⟨hu'.out, by rw [hl'.out]; exact hun, hk'.out, rfl, by rw [hl'.out, hK'.out]; exact hkK⟩)
        clear h1 h2 d0 d1 hug'
        by_cases hlt : k = K
        · have d2 : ((k : Int) == (K : Int)) = true := by simp [hlt]
          have hga := Lib.hid (show gapAt L u k = endN (dp L) n u by
            unfold gapAt
            rw [hl'.out, List.getElem?_eq_none (by rw [hK'.out]; omega)]
            rfl)
          clear hlt hkK
          go_wp2_with fail
          refine (CE.out _ hg1).mono ?_; rintro r w4 ⟨rfl, hg4⟩
          have hgz := grown_trans hg1 hg4
          go_wp2_with fail
          go_ret2
          exact ⟨.inl ⟨u, k, hyes.out, by rw [hga.out]; rfl⟩, grown_trans hg0'.out hgz⟩
        · have d2 : ((k : Int) == (K : Int)) = false := by
            simp only [beq_eq_false_iff_ne]
            omega
          have hkK2 : k < K := by omega
          obtain ⟨q, hq⟩ : ∃ q, (kidsN (dp L) n u)[k]? = some q := ⟨_, List.getElem?_eq_getElem (by rw [hK'.out]; exact hkK2)⟩
          have hga := Lib.hid (show gapAt L u k = q by
            unfold gapAt
            rw [hl'.out, hq]
            rfl)
          have hw := hown'.out
          rw [hK'.out] at hw
          obtain ⟨g, rfl, _, _, _, hc⟩ := hw.cells_ (by rw [List.length_map, hK'.out]; omega)
          have zq := hc k (by rw [List.length_map, hK'.out]; exact hkK2)
          rw [List.getElem?_map, hq] at zq
          replace zq : w3.cell? ⟨g, k, none⟩ = some (.int .i64 (q : Int)) := zq
          have hKb : K ≤ 1000 := by
            have h1 := List.length_filter_le (fun j => decide (dp L j = dp L u + 1)) (List.range' (u + 1) (endN (dp L) n u - (u + 1)))
            have h2 := endN_le (d := dp L) (n := n) hun
            have h3 := hK'.out
            unfold kidsN at h3
            rw [List.length_range'] at h1
            omega
          clear hlt hq hc hw hkK
          go_wp2_with fail
          go_ret2
          exact ⟨.inl ⟨u, k, hyes.out, by rw [hga.out]; rfl⟩, grown_trans hg0'.out hg1⟩
    · have hkb : (kindN (nd L u) == 0) = false := by simpa using hk
      have hh := Lib.hid hk
      clear hk
      go_wp2_with fail
      refine (must_no 70 w2).mono ?_; rintro r w3 ⟨rfl, rfl⟩
      go_wp2_with fail
      exact ⟨rfl, .inr ⟨fun ⟨u', k', h⟩ => hh.out (hug'.out u' k' h).2.1, rfl⟩, grown_trans hg0'.out hg1⟩
  · go_wp2_with fail
    exact ⟨rfl, .inr ⟨fun ⟨u, k, h1, _⟩ => by omega, rfl⟩, grown_trans hg0'.out hg1⟩
end Go.Proofs.Ytjnbfgogmhfbiaa
