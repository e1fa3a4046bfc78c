/- NetBits: the law's helpers. -/
import Derived.Test.YtdmhaigldckdbaaNp
import Derived.Deep.QuietTactic
namespace Go.Proofs.Ytdmhaigldckdbaa
open Go Go.RowKit
theorem same_any (A1 A2 : Option Addr) (n1 c1 n2 c2 : Nat) (l1 l2 : List Nat) (w : World) (B1 B2 : Nat) (h1 : l1.length = n1) (h2 : l2.length = n2) (r1 : Reads w B1 A1 (l1.map byte)) (r2 : Reads w B2 A2 (l2.map byte)) (hn : n1 ≤ 1000000) (hn2 : n2 ≤ 1000000) :
    Calls Try.prog 15 #[.slice A1 n1 c1, .slice A2 n2 c2] w fun e w' => e = .returned (.bool (l1 == l2)) ∧ w.grownBy w' none := by
  by_cases hne : n1 = n2
  · subst hne
    go_enter Try.func15, Try.ntmps15
    go_wp2
    go_loopw [5] (fun v wr => ∃ k : Nat, k ≤ n1 ∧ v = .int .i64 k ∧ (∀ j, j < k → nth l1 j = nth l2 j) ∧ w.grownBy wr none) (fun v _ => n1 - (intOf v).toNat)
    case atStart => exact ⟨0, Nat.zero_le _, rfl, fun j hj => absurd hj (by omega), World.grownBy.refl _ _⟩
    case round =>
      obtain ⟨k, hk, rfl, heq, hg⟩ := hrel
      have heq' := Lib.hid heq; clear heq
      by_cases hlt : k < n1
      · obtain ⟨ad1, rfl, _, hc1⟩ := (r1.grown0 hg).byte_ (k := k) (by omega)
        obtain ⟨ad2, rfl, _, hc2⟩ := (r2.grown0 hg).byte_ (k := k) (by omega)
        go_wp2
        go_quiet (fail)
        by_cases hxy : nth l1 k = nth l2 k
        · have hb : ((nth l1 k : Int) != (nth l2 k : Int)) = false := by simp [hxy]
          have hk' : Hid (nth l1 k = nth l2 k) := hxy
          clear hxy
          go_wp2
          go_roundw
          case rel => exact ⟨k + 1, by omega, by go_num, fun j hj => by
            rcases Nat.lt_or_ge j k with h | h
            · exact heq'.out j h
            · obtain rfl : j = k := by omega
              exact hk'.out, grown_drewN hg _⟩
          case measure => simp [intOf]; omega
        · have hb : ((nth l1 k : Int) != (nth l2 k : Int)) = true := by simp; omega
          have hk' : Hid (¬ nth l1 k = nth l2 k) := hxy
          clear hxy
          go_wp2
          go_ret
          refine ⟨?_, grown_drewN hg _⟩
          have : l1 ≠ l2 := fun e => hk'.out (by rw [e])
          simp [this]
      · go_wp2
        go_ret
        obtain rfl : k = n1 := by omega
        refine ⟨?_, hg⟩
        have : l1 = l2 := ext_nth (by omega) (fun j hj => heq'.out j (by omega))
        simp [this]
  · have hb : ((n1 : Int) != (n2 : Int)) = true := by simp; omega
    go_enter Try.func15, Try.ntmps15
    go_wp2
    go_ret
    refine ⟨?_, World.grownBy.refl _ _⟩
    have : l1 ≠ l2 := fun e => hne (by rw [← h1, ← h2, e])
    simp [this]
theorem same_true (A1 A2 : Option Addr) (n1 c1 n2 c2 : Nat) (l : List Nat) (w : World) (B1 B2 : Nat) (h1 : l.length = n1) (h2 : l.length = n2) (r1 : Reads w B1 A1 (l.map byte)) (r2 : Reads w B2 A2 (l.map byte)) (hn : n1 ≤ 1000000) :
    Calls Try.prog 15 #[.slice A1 n1 c1, .slice A2 n2 c2] w fun e w' => e = .returned (.bool true) ∧ w.grownBy w' none := by
  have := same_any A1 A2 n1 c1 n2 c2 l l w B1 B2 h1 h2 r1 r2 hn (by omega)
  simpa using this
theorem flip_flip (l : List Nat) (k : Nat) (hk : k / 8 < l.length) : flipL (flipL l k) k = l := by
  unfold flipL
  rw [List.set_set]
  apply List.ext_getElem?
  intro t
  rw [List.getElem?_set]
  split
  · rename_i h
    subst h
    have e : nth (l.set (k / 8) (nth l (k / 8) ^^^ 2 ^ (k % 8))) (k / 8) = nth l (k / 8) ^^^ 2 ^ (k % 8) := by
      simp [nth, hk]
    rw [e, Nat.xor_assoc, Nat.xor_self, Nat.xor_zero, nth_getElem hk]
    simp [hk]
  · rfl
set_option maxRecDepth 100000 in
set_option maxHeartbeats 2000000 in
theorem NetBits_walk (a0 : Option Addr) (len0 cap0 : Nat) (z0 : List Int) (bit wh : Int) (w : World) (w0 : IsRow .u8 w a0 len0 cap0 z0) (wb : (Lit.int .i64 bit).wf = true) (ww : (Lit.int .i64 wh).wf = true) :
    Calls Try.prog 7 #[.slice a0 len0 cap0, .int .i64 bit, .int .i64 wh] w fun e w' => e = .returned (.bool true) ∧ Below w.heap.size w w' := by
  obtain ⟨l, hl, hby, hr⟩ := w0.bytes_
  have hlc := w0.len_
  clear w0 wb ww
  have CA := Lib.hid (awake_any w)
  have CN := Lib.hid (fun W (hg : w.grownBy W none) => at_new w W hg)
  by_cases h0 : len0 = 0 ∨ 128 < len0
  · have hq := Lib.hid hr
    clear hr
    rcases h0 with h0 | h0
    · subst h0
      go_enter Try.func7, Try.ntmps7
      go_wp2_with fail
      refine CA.out.mono ?_; rintro e w1 ⟨rfl, hg1⟩
      go_wp2_with fail
      go_ret
      exact ⟨rfl, grown_below hg1⟩
    · have e0 : ((len0 : Int) == 0) = false := by simp; omega
      have e1 : decide ((128 : Int) < (len0 : Int)) = true := by simp; omega
      go_enter Try.func7, Try.ntmps7
      go_wp2_with fail
      refine CA.out.mono ?_; rintro e w1 ⟨rfl, hg1⟩
      go_wp2_with fail
      go_ret
      exact ⟨rfl, grown_below hg1⟩
  · have h1 : 0 < len0 ∧ len0 ≤ 128 := by omega
    clear h0
    obtain ⟨h1, h2⟩ := h1
    have e0 : ((len0 : Int) == 0) = false := by simp; omega
    have e1 : decide ((128 : Int) < (len0 : Int)) = false := by simp; omega
    obtain ⟨m, hm, hm2⟩ : ∃ m : Nat, (IntKind.u64.wrap wh).tmod 7 = (m : Int) ∧ m < 7 := by
      have h0 : 0 ≤ IntKind.u64.wrap wh := by rw [IntKind.wrap_u64]; exact Int.emod_nonneg _ (by omega)
      refine ⟨(IntKind.u64.wrap wh % 7).toNat, ?_, ?_⟩
      · rw [Int.tmod_eq_emod_of_nonneg h0]
        omega
      · omega
    have hw0 : IntKind.i64.wrap (m : Int) = (m : Int) := by rw [IntKind.wrap_i64]; omega
    have hw1 : IntKind.i64.wrap ((m : Int) - 1) = (m : Int) - 1 := by rw [IntKind.wrap_i64]; omega
    obtain ⟨to, hto⟩ : ∃ to, (m : Int) - 1 = to := ⟨_, rfl⟩
    have ht : -1 ≤ to ∧ to ≤ 5 := by omega
    obtain ⟨q, hq⟩ : ∃ q, q = place bit (8 * l.length) := ⟨_, rfl⟩
    have hql : q < 8 * l.length := by rw [hq]; exact place_lt bit (by omega)
    have hne : l ≠ [] := by rintro rfl; simp at hl; omega
    have CS := Lib.hid (fun g W (hg : w.grownBy W none) h => at_send w W g [] to a0 len0 cap0 l w.heap.size h (by simp) ht hl h2 hby (hr.grown0 hg))
    have CC := Lib.hid (fun g W h => at_copy w W g [(to, l)] 0 h (by simp) (by simp) (to, l) rfl)
    have CP := Lib.hid (fun g W h => at_spoil w W g [(to, l), (to, l)] 0 bit h (by simp) (to, l) rfl hne)
    have CP2 := Lib.hid (fun g W h => at_spoil w W g [(to, flipL l q), (to, l)] 0 bit h (by simp) (to, flipL l q) rfl (by rw [← List.length_pos_iff, flipL_len]; exact List.length_pos_iff.2 hne))
    have CL := Lib.hid (fun g W h => at_all2 w W g [(to, flipL l q), (to, l)] h)
    have CT1 := Lib.hid (fun g W h => atK_take w W g [(to, l), (to, l)] [] [] 0 h (by simp) (to, l) rfl)
    have CT2 := Lib.hid (fun g W K B h => atK_take w W g [(to, l)] K B 0 h (by simp) (to, l) rfl)
    have CT3 := Lib.hid (fun g W K B h => atK_tnone w W g K B 0 h)
    have hff := Lib.hid (flip_flip l q (by omega))
    have hqh := Lib.hid hq
    have hSA := Lib.hid (fun A c W hK hR => same_true A a0 len0 c len0 cap0 l W W.heap.size w.heap.size hl hl hK hR (by omega))
    go_enter Try.func7, Try.ntmps7
    go_wp2_with fail
    refine CA.out.mono ?_; rintro e w1 ⟨rfl, hg1⟩
    go_wp2_with fail
    refine (CN.out _ hg1).mono ?_; rintro e w2 ⟨g, rfl, h2⟩
    go_wp2_with fail
    refine (CS.out g _ h2.1 h2).mono ?_; rintro e w3 ⟨rfl, h3⟩
    go_wp2_with fail
    refine (CC.out g _ h3).mono ?_; rintro e w4 ⟨rfl, h4⟩
    go_wp2_with fail
    refine (CP.out g _ h4).mono ?_; rintro e w5 ⟨rfl, h5⟩
    replace h5 : At w g [(to, flipL l q), (to, l)] w5 := by rw [hq]; exact h5
    go_wp2_with fail
    refine (CL.out g _ h5).mono ?_; rintro e w6 ⟨A6, c6, out, rfl, hout, hO, h6⟩
    obtain ⟨o0, o1, rfl⟩ : ∃ o0 o1, out = [o0, o1] := by
      have := congrArg List.length hout
      rw [List.length_map] at this
      match out, this with
      | [a, b], _ => exact ⟨a, b, rfl⟩
    obtain ⟨t0, P0, k0, b0⟩ := o0
    obtain ⟨t1, P1, k1, b1⟩ := o1
    simp only [List.map_cons, List.map_nil, Flt.it, List.cons.injEq, Prod.mk.injEq, and_true] at hout
    obtain ⟨⟨rfl, rfl⟩, rfl, rfl⟩ := hout
    have hfl : (flipL b1 q).length = b1.length := flipL_len _ _
    have o0' := (hO.2.2.1.1 _ List.mem_cons_self).2
    have o1' := (hO.2.2.1.1 _ (List.mem_cons_of_mem _ List.mem_cons_self)).2
    obtain ⟨r, rfl, _, _, _, hcr⟩ := hO.2.2.2.cells_ (by rw [rowF_len]; simp)
    have y0 := hcr 0 (by rw [rowF_len]; simp)
    have y1 := hcr 1 (by rw [rowF_len]; simp)
    have y2 := hcr 2 (by rw [rowF_len]; simp)
    have y3 := hcr 3 (by rw [rowF_len]; simp)
    simp only [rowF, Flt.cells, List.map_cons, List.map_nil, List.flatten_cons, List.flatten_nil, List.cons_append, List.nil_append, List.append_nil, List.getElem?_cons_zero, List.getElem?_cons_succ] at y0 y1 y2 y3
    dsimp only at o0' o1'
    rw [hfl, hl] at y1
    rw [hl] at y3
    have hg6 := h6.1
    have S1 := Lib.hid (fun W (hg : w6.grownBy W none) => same_true P1 a0 len0 k1 len0 cap0 b1 W _ _ hl hl ((o1'.reads).grown0 hg) (hr.grown0 (grown_trans hg6 hg)) (by omega))
    have hrq := Lib.hid hr
    have ho0 := Lib.hid o0'
    have hly := Lib.hid hby
    clear h2 h3 h4 h5 hO hcr o0' o1' hr hby CS CC CP CL hfl
    go_wp2_with fail
    refine (S1.out _ (World.grownBy.refl _ _)).mono ?_; rintro e w7 ⟨rfl, hg7⟩
    replace h6 := h6.grown0 hg7
    have z1 := hg7.cell y1 (by simp)
    have hg67 := hg7
    clear y0 y1 y2 y3 S1
    go_wp2_with fail
    go_loopw [9, 10] (fun d v wr => ∃ i : Nat, i ≤ len0 ∧ v = .int .i64 i ∧ d = .int .i64 ((if q / 8 < i then 1 else 0 : Nat) : Int) ∧ w7.grownBy wr none) (fun _ v _ => len0 - (intOf v).toNat)
    case atStart => exact ⟨0, by omega, rfl, by simp, World.grownBy.refl _ _⟩
    case round =>
      obtain ⟨i, hi, rfl, rfl, hgr⟩ := hrel
      have z2 := hgr.cell z1 (by simp)
      by_cases hlt : i < len0
      · have hil : i < b1.length := by rw [hl]; exact hlt
        obtain ⟨g0, rfl, _, _, hc0, _⟩ := ((ho0.out.grown0 hg7).grown0 hgr).byte_at (k := i) (by rw [flipL_len]; exact hil)
        obtain ⟨ad, rfl, _, hc1⟩ := ((hrq.out.grown0 (grown_trans hg6 hg7)).grown0 hgr).byte_ (k := i) hil
        obtain ⟨X0, hX0⟩ : ∃ X0, X0 = nth (flipL b1 q) i ^^^ nth b1 i := ⟨_, rfl⟩
        obtain ⟨D1, hD1⟩ : ∃ D1 : Nat, D1 = if q / 8 < i + 1 then 1 else 0 := ⟨_, rfl⟩
        obtain ⟨D0, hD0⟩ : ∃ D0 : Nat, D0 = if q / 8 < i then 1 else 0 := ⟨_, rfl⟩
        have hX : (X0 = 0 ∧ D0 = D1) ∨ ∃ s, s < 8 ∧ X0 = 2 ^ s ∧ D0 = 0 ∧ D1 = 1 := by
          by_cases e : q / 8 = i
          · right
            refine ⟨q % 8, by omega, ?_, by rw [hD0, if_neg (by omega)], by rw [hD1, if_pos (by omega)]⟩
            rw [hX0, flipL, e]
            rw [show nth (b1.set i (nth b1 i ^^^ 2 ^ (q % 8))) i = nth b1 i ^^^ 2 ^ (q % 8) by simp [nth, hil]]
            rw [Nat.xor_comm (nth b1 i), Nat.xor_assoc, Nat.xor_self, Nat.xor_zero]
          · left
            refine ⟨?_, by rw [hD0, hD1]; by_cases h : q / 8 < i; rw [if_pos h, if_pos (by omega)]; rw [if_neg h, if_neg (by omega)]⟩
            rw [hX0, flipL]
            rw [show nth (b1.set (q / 8) (nth b1 (q / 8) ^^^ 2 ^ (q % 8))) i = nth b1 i by simp [nth, List.getElem?_set, e]]
            exact Nat.xor_self _
        have ex : bits .xor .u8 (nth (flipL b1 q) i : Int) (nth b1 i : Int) = (X0 : Int) := by rw [hX0]; exact u8_xor_nat _ _ ((flipL_byt hly.out q).nth i) (hly.out.nth i)
        have hX' := Lib.hid hX
        have hD1' := Lib.hid hD1
        rw [← hD0]
        clear hX hX0 hD0 hD1
        have hgr' := Lib.hid hgr
        generalize nth (flipL b1 q) i = u0 at *
        generalize nth b1 i = u1 at *
        go_wp2_with fail
        go_quiet (fail)
        obtain ⟨wo, rfl⟩ : ∃ wo : World, wo = wr := ⟨_, rfl⟩
        go_wp2_with fail
        go_loopw [9, 11] (fun d v wr => ∃ X D : Nat, v = .int .u8 X ∧ d = .int .i64 D ∧ ((X = 0 ∧ D = D1) ∨ ∃ s, s < 8 ∧ X = 2 ^ s ∧ D = 0 ∧ D1 = 1) ∧ w7.grownBy wr none) (fun _ v _ => (intOf v).toNat)
        case atStart => exact ⟨X0, D0, rfl, rfl, hX'.out, grown_drewN hgr'.out _⟩
        case round =>
          obtain ⟨X, D, rfl, rfl, hXD, hgx⟩ := hrel
          rcases hXD with ⟨rfl, rfl⟩ | ⟨s, hs, hXs, rfl, rfl⟩
          · go_wp2_with fail
            go_roundw
            case rel => exact ⟨i + 1, by omega, by go_num, by rw [hD1'.out], hgx⟩
            case measure => simp [intOf]; omega
          · have hp : 0 < X := by rw [hXs]; exact Nat.two_pow_pos s
            have hX8 : X < 2 ^ 8 := by rw [hXs]; exact Nat.pow_lt_pow_right (by omega) hs
            have hpd : decide ((0 : Int) < (X : Int)) = true := by simp; omega
            obtain ⟨X2, hX2⟩ : ∃ X2, X2 = X % 2 := ⟨_, rfl⟩
            obtain ⟨Xh, hXh⟩ : ∃ Xh, Xh = X / 2 := ⟨_, rfl⟩
            have t1' : (X : Int).tmod 2 = (X2 : Int) := by rw [Int.tmod_eq_emod_of_nonneg (by omega)]; omega
            have t2' : (X : Int) % 2 = (X2 : Int) := by omega
            have t3' : IntKind.u8.wrap ((X : Int) / 2) = (Xh : Int) := by rw [IntKind.wrap_u8]; omega
            have t4' : IntKind.i64.wrap (X2 : Int) = (X2 : Int) := by rw [IntKind.wrap_i64]; omega
            have hrel' := Lib.hid (show ((Xh = 0 ∧ X2 = 1) ∨ ∃ s, s < 8 ∧ Xh = 2 ^ s ∧ X2 = 0 ∧ True) ∧ Xh < X by
              refine ⟨?_, by omega⟩
              cases s with
              | zero => left; rw [Nat.pow_zero] at hXs; omega
              | succ t =>
                right
                rw [Nat.pow_succ] at hXs
                have e5 : Xh = 2 ^ t := by
                  generalize 2 ^ t = z at *
                  omega
                have e6 : X2 = 0 := by
                  generalize 2 ^ t = z at *
                  omega
                exact ⟨t, by omega, e5, e6, trivial⟩)
            clear hX2 hXh hXs
            go_wp2_with fail
            go_roundw
            case rel => exact ⟨Xh, X2, rfl, rfl, hrel'.out.1, hgx⟩
            case measure => have := hrel'.out.2; simp [intOf]; omega
      · obtain rfl : i = len0 := by omega
        have hD : (if q / 8 < i then 1 else 0 : Nat) = 1 := if_pos (by omega)
        rw [hD]
        replace h6 := h6.grown0 hgr
        go_wp2_with fail
        refine (CP2.out g _ h6).mono ?_; rintro e w8 ⟨rfl, h8⟩
        replace h8 := h8.toK
        rw [show (flipL b1 q).length = b1.length from flipL_len _ _, ← hqh.out, hff.out] at h8
        go_wp2_with fail
        refine (CT1.out g _ h8).mono ?_; rintro e w9 ⟨A9, c9, rfl, h9⟩
        go_wp2_with fail
        replace h9 := h9.box 33 #[.int .i64 t1, .slice A9 i c9]
        refine (CT2.out g _ _ _ h9).mono ?_; rintro e wa ⟨Aa, ca, rfl, ha⟩
        go_wp2_with fail
        replace ha := ha.box 33 #[.int .i64 t1, .slice Aa i ca]
        refine (CT3.out g _ _ _ ha).mono ?_; rintro e wb ⟨rfl, hb⟩
        replace hb := hb.grown0 (World.grownBy_alloc wb (.cells #[.int .i64 0, .slice none 0 0] 33) none)
        obtain ⟨hgb, _, _, _, hK, hB⟩ := hb
        have k1 := (hK _ (List.mem_cons_of_mem _ List.mem_cons_self)).1
        have k2 := (hK _ List.mem_cons_self).1
        have b1' : (wb.alloc (.cells #[.int .i64 0, .slice none 0 0] 33)).cell? ⟨w9.heap.size, 1, none⟩ = some (.slice A9 i c9) := ((hB _ (List.mem_cons_of_mem _ List.mem_cons_self)).1).two.2
        have b2' : (wb.alloc (.cells #[.int .i64 0, .slice none 0 0] 33)).cell? ⟨wa.heap.size, 1, none⟩ = some (.slice Aa i ca) := ((hB _ List.mem_cons_self).1).two.2
        dsimp only at k1 k2
        rw [hl] at k1 k2
        have k1' := Lib.hid k1
        have k2' := Lib.hid k2
        clear hK hB k1 k2
        go_wp2_with fail
        generalize wb.alloc (.cells #[.int .i64 0, .slice none 0 0] 33) = wc at *
        refine (hSA.out _ _ _ k1'.out.reads (hrq.out.grown0 hgb)).mono ?_; rintro e wd ⟨rfl, hgd⟩
        replace b2' := hgd.cell b2' (by simp)
        go_wp2_with fail
        refine (hSA.out _ _ _ (k2'.out.grown0 hgd).reads (hrq.out.grown0 (grown_trans hgb hgd))).mono ?_; rintro e we ⟨rfl, hge⟩
        go_wp2_with fail
        go_ret
        exact ⟨rfl, grown_below (grown_trans hgb (grown_trans hgd hge))⟩
end Go.Proofs.Ytdmhaigldckdbaa
