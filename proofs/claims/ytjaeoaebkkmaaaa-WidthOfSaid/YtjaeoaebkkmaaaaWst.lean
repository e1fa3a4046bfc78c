/- The walk of WidthStyles. -/
import Derived.Test.YtjaeoaebkkmaaaaOfs
import Derived.Test.YtjaeoaebkkmaaaaEqr
namespace Go.Proofs.Ytjaeoaebkkmaaaa
open Go Go.RowKit
def askL : List Lf := [.bool, .int .i64, .int .i64, .int .i64, .int .i64, .int .i64, .bool, .bool, .int .i64]
theorem ask_leaves : leaves Try.prog 3 23 = some askL := by kernel_rfl
theorem ask_key : Try.prog.keyTypeAt 3 23 = true := by kernel_rfl
theorem ask_noguard : Try.prog.eqGuardType Try.prog.depth 23 = false := by kernel_rfl
theorem i64_wf {n : Int} (h : I64 n) : (Lit.int .i64 n).wf = true := by
  unfold I64 at h
  simp [Lit.wf, IntKind.min, IntKind.max, IntKind.signed, IntKind.bits]
  omega
theorem ask_okAll {a : Ask} (h : a.ok) : OkAll askL [.bool a.is, .int .i64 a.wd, .int .i64 a.least, .int .i64 a.most, .int .i64 a.left, .int .i64 a.right, .bool a.al, .bool a.ar, .int .i64 a.edges] := by
  obtain ⟨h1, h2, h3, h4, h5, h6⟩ := h
  exact ⟨_, _, rfl, ⟨_, rfl⟩, _, _, rfl, ⟨_, rfl, i64_wf h1⟩, _, _, rfl, ⟨_, rfl, i64_wf h2⟩, _, _, rfl, ⟨_, rfl, i64_wf h3⟩, _, _, rfl, ⟨_, rfl, i64_wf h4⟩, _, _, rfl, ⟨_, rfl, i64_wf h5⟩, _, _, rfl, ⟨_, rfl⟩, _, _, rfl, ⟨_, rfl⟩, _, _, rfl, ⟨_, rfl, i64_wf h6⟩, rfl⟩
theorem ask_equal {a b : Ask} (ha : a.ok) (hb : b.ok) (w : World) : (Op.equal 23 a.val b.val).run Try.prog w = .ok (eqV [.bool a.is, .int .i64 a.wd, .int .i64 a.least, .int .i64 a.most, .int .i64 a.left, .int .i64 a.right, .bool a.al, .bool a.ar, .int .i64 a.edges] [.bool b.is, .int .i64 b.wd, .int .i64 b.least, .int .i64 b.most, .int .i64 b.left, .int .i64 b.right, .bool b.al, .bool b.ar, .int .i64 b.edges]) w :=
  flat_equal Try.underlying23 ask_leaves ask_key (by omega) (by kernel_rfl) (xs := #[.bool a.is, .int .i64 a.wd, .int .i64 a.least, .int .i64 a.most, .int .i64 a.left, .int .i64 a.right, .bool a.al, .bool a.ar, .int .i64 a.edges]) (ys := #[.bool b.is, .int .i64 b.wd, .int .i64 b.least, .int .i64 b.most, .int .i64 b.left, .int .i64 b.right, .bool b.al, .bool b.ar, .int .i64 b.edges]) (ask_okAll ha) (ask_okAll hb) w
theorem ask_self {a : Ask} (ha : a.ok) (w : World) : (Op.equal 23 a.val a.val).run Try.prog w = .ok true w := by
  rw [ask_equal ha ha w, eqV_self (ask_okAll ha)]
set_option maxRecDepth 100000 in
set_option maxHeartbeats 1000000 in
theorem WidthStyles_walk (w : World) (cs : List Value) (ok : OkAll styL cs) (of : Int) (wo : (Lit.int .i64 of).wf = true) :
    Calls Try.prog 8 #[.agg ⟨cs⟩, .int .i64 of] w fun e w' => e = .returned (.bool true) ∧ Below w.heap.size w w' := by
  obtain ⟨s, hs, rfl⟩ := Sty.open ok
  have ho := swf_i64 wo
  have CO := (fun W => of_any s of W hs ho)
  have CD := (fun W => rof_any s of W hs ho)
  have hok := ofV_ok s of
  generalize ofV s of = p at *
  obtain ⟨a, err⟩ := p
  dsimp only at CO CD hok
  have heq := Lib.hid (fun W => ask_self hok W)
  obtain ⟨is, wd, least, most, left, right, al, ar, edges⟩ := a
  unfold Ask.val at CO CD heq
  replace CO := Lib.hid CO
  replace CD := Lib.hid CD
  have rs : Row (w.alloc (.cells s.cells 39)) w.heap.size 39 s.cells := Row.new _ _ _
  have hg := World.grownBy_alloc w (.cells s.cells 39) none
  clear ok wo ho hs hok
  go_enter Try.func8, Try.ntmps8
  go_wp2_with (refine wpList_row bigS rs (Sty.size _) rfl rfl rfl ?_; simp only [Act.put, List.setIfInBounds_toArray, List.set_cons_zero, List.set_cons_succ])
  refine (CO.out _).mono ?_; rintro e w1 ⟨rfl, hx⟩
  replace rs := rs.kept0 hx
  replace hg := grown_trans hg hx
  clear hx
  have hx := World.grownBy_alloc w1 (.cells #[.bool is, .int .i64 wd, .int .i64 least, .int .i64 most, .int .i64 left, .int .i64 right, .bool al, .bool ar, .int .i64 edges] 23) none
  have r5 := Row.new w1 23 #[.bool is, .int .i64 wd, .int .i64 least, .int .i64 most, .int .i64 left, .int .i64 right, .bool al, .bool ar, .int .i64 edges]
  replace rs := rs.kept0 hx
  replace hg := grown_trans hg hx
  clear hx
  go_wp2_with (refine wpList_row bigS rs (Sty.size _) rfl rfl rfl ?_; simp only [Act.put, List.setIfInBounds_toArray, List.set_cons_zero, List.set_cons_succ])
  refine (CD.out _).mono ?_; rintro e w2 ⟨rfl, hx⟩
  replace r5 := r5.kept0 hx
  replace hg := grown_trans hg hx
  clear hx rs
  have hx := World.grownBy_alloc w2 (.cells #[.bool is, .int .i64 wd, .int .i64 least, .int .i64 most, .int .i64 left, .int .i64 right, .bool al, .bool ar, .int .i64 edges] 23) none
  have r7 := Row.new w2 23 #[.bool is, .int .i64 wd, .int .i64 least, .int .i64 most, .int .i64 left, .int .i64 right, .bool al, .bool ar, .int .i64 edges]
  replace r5 := r5.kept0 hx
  replace hg := grown_trans hg hx
  clear hx
  go_wp2_with (first | (refine wpList_row bigA r5 rfl rfl rfl rfl ?_; simp only [Act.put, List.setIfInBounds_toArray, List.set_cons_zero, List.set_cons_succ]) | (refine wpList_row bigA r7 rfl rfl rfl rfl ?_; simp only [Act.put, List.setIfInBounds_toArray, List.set_cons_zero, List.set_cons_succ]) | (refine wpList_value_w rfl (exec_eql ask_noguard rfl rfl rfl _ (heq.out _)) ?_; simp only [Act.put, List.setIfInBounds_toArray, List.set_cons_zero, List.set_cons_succ]))
  go_ret
  exact ⟨by simp, grown_below hg⟩
end Go.Proofs.Ytjaeoaebkkmaaaa
