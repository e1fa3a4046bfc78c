/- The mutations: the row of functions; the deferred closure. -/
import Derived.Test.YtjnbfgogmhfbiaaVm
import Derived.Recover
import Derived.Laws.Pointers
namespace Go.Proofs.Ytjnbfgogmhfbiaa
open Go Go.RowKit
def doers : Array Value := #[.nilFunc, .func (.func 30) #[] #[], .func (.func 31) #[] #[], .func (.func 32) #[] #[], .func (.func 33) #[] #[], .func (.func 35) #[] #[]]
theorem bigD : Big Try.prog 56 6 #[.nilFunc, .nilFunc, .nilFunc, .nilFunc, .nilFunc, .nilFunc] := ⟨⟨_, Try.underlying56, rfl⟩, by kernel_rfl, by kernel_rfl⟩
theorem doers_one : ∀ v ∈ doers.toList, v.oneCell' = true := fun v hv => by
  simp only [doers, List.mem_cons, List.not_mem_nil, or_false] at hv
  rcases hv with rfl | rfl | rfl | rfl | rfl | rfl <;> rfl
theorem doing_any (w : World) : Calls Try.prog 25 #[] w fun e w' => e = .returned (.agg doers) ∧ w.grownBy w' none := by
  have r1 := (Row.new w 56 #[.nilFunc, .nilFunc, .nilFunc, .nilFunc, .nilFunc, .nilFunc]).store doers
  have hg := grown_new (World.grownBy_alloc w (.cells #[.nilFunc, .nilFunc, .nilFunc, .nilFunc, .nilFunc, .nilFunc] 56) none) (grownBy_setRow _ w.heap.size doers) (fun g e => by cases e; exact Nat.le_refl _)
  go_enter Try.func25, Try.ntmps25
  go_wp2_with (first
    | (refine wpList_value rfl (exec_alloc_row bigD rfl w) ?_; simp only [Act.put, List.setIfInBounds_toArray, List.set_cons_zero, List.set_cons_succ])
    | (refine wpList_skip rfl (exec_store_row bigD (x := .tmp 0) (y := .tmp 1) (g := w.heap.size) rfl (by kernel_rfl) doers (by kernel_rfl) _ (Row.new w 56 #[.nilFunc, .nilFunc, .nilFunc, .nilFunc, .nilFunc, .nilFunc]) rfl rfl doers_one) ?_; simp only [Act.put, List.setIfInBounds_toArray, List.set_cons_zero, List.set_cons_succ]))
  generalize (w.alloc (.cells #[.nilFunc, .nilFunc, .nilFunc, .nilFunc, .nilFunc, .nilFunc] 56)).setRow w.heap.size doers = W at *
  have e0 := r1.at 0
  have e1 := r1.at 1
  have e2 := r1.at 2
  have e3 := r1.at 3
  have e4 := r1.at 4
  have e5 := r1.at 5
  simp only [doers, List.getElem?_toArray, List.getElem?_cons_zero, List.getElem?_cons_succ] at e0 e1 e2 e3 e4 e5
  exact bodyPost_ret (v := .agg doers) (by simp [results, Try.results25, go_sem, e0, e1, e2, e3, e4, e5, doers]) rfl ⟨rfl, hg⟩
theorem run_assert (e : Int) (w : World) : (Instr.typeAssert (.iface 51 (.agg #[.int .i64 e])) 20 51 true).run Try.prog w = .ok (.tuple #[.agg #[.int .i64 e], .bool true]) w := by
  simp [Instr.typeAssert, run_underlying Try.underlying51, Sem.run_bind]
theorem catch_wrong (po pe : Nat) (e x0 : Int) (u v : Value) (w : World) (ho : Two w po 24 u v) (he : Row w pe 37 #[.int .i64 x0]) (hne : po ≠ pe) :
    CallsD Try.prog 22 #[.pointer (some ⟨po, 0, none⟩), .pointer (some ⟨pe, 0, none⟩)] (.panicking [{ v := wrongV e, recovered := false }]) w fun r u' w' =>
      r = .returned (.tuple #[]) ∧ u' = .panicking [{ v := wrongV e, recovered := true }] ∧ Two w' po 24 (.slice none 0 0) (.int .i64 0) ∧ Row w' pe 37 #[.int .i64 e] ∧ (∀ w0 : World, w0.grownBy w none → w0.heap.size ≤ po → w0.heap.size ≤ pe → w0.grownBy w' none) := by
  refine callsD_of_wpS Try.func22 rfl fun c₀ cs hu => ?_
  apply wpS_seq
  apply wpS_region
  simp [wpOpsS, go_sem, recoverD, hu, Try.ntmps22, Exit.thenS]
  refine wpS_of_wp ?_
  rw [show (#[Value.pointer (some ⟨po, 0, none⟩), Value.pointer (some ⟨pe, 0, none⟩)] ++ ((Array.replicate 17 undef).setIfInBounds 3 (wrongV e)).setIfInBounds 0 (wrongV e)) =
    #[Value.pointer (some ⟨po, 0, none⟩), Value.pointer (some ⟨pe, 0, none⟩), wrongV e, undef, undef, wrongV e, undef, undef, undef, undef, undef, undef, undef, undef, undef, undef, undef, undef, undef] from by kernel_rfl]
  generalize hQ : (fun e_1 a' w' => bodyPostS Try.prog _ c₀ cs _ e_1 a' _ w') = Q
  have hta := run_assert e
  have t0 := ho.c0
  have t1 := ho.c1
  have tf0 := ho.f 0
  have tf1 := ho.f 1
  have t2 := he.at 0
  have tf2 := he.free 0
  unfold wrongV
  go_wp2_with fail
  clear t0 t1 tf0 tf1 t2 tf2
  have hgA := World.grownBy_alloc w (.cells #[.int .i64 e] 51) none
  have ho1 := ho.kept hgA (by simp)
  have he1 := he.kept0 hgA
  have z : (w.alloc (.cells #[.int .i64 e] 51)).cell? ⟨w.heap.size, 0, none⟩ = some (.int .i64 e) := (Row.new w 51 #[.int .i64 e]).at 0
  have hlo := ho.lt
  have hle := he.lt
  generalize w.alloc (.cells #[.int .i64 e] 51) = W at *
  generalize w.heap.size = pw at *
  have t0 := ho1.c0
  have t1 := ho1.c1
  have tf0 := ho1.f 0
  have tf1 := ho1.f 1
  have t2 := he1.at 0
  have tf2 := he1.free 0
  have n1 : pw ≠ po := by omega
  have n2 : pw ≠ pe := by omega
  have n3 := Ne.symm hne
  go_region
  have hdr := grown_drew (World.grownBy.refl (((W.setCell ⟨po, 0, none⟩ (.slice none 0 0)).setCell ⟨po, 1, none⟩ (.int .i64 0)).setCell ⟨pe, 0, none⟩ (.int .i64 e)) none)
  have P1 := (((ho1.s0 (.slice none 0 0)).s1 (.int .i64 0)).other (k := 0) hne (.int .i64 e)).kept hdr (by simp)
  have P2 := (((he1.keptNe (grownBy_setCell W po 0 (.slice none 0 0)) n3).keptNe (grownBy_setCell _ po 1 (.int .i64 0)) n3).set 0 (.int .i64 e)).kept0 hdr
  rw [← hQ]
  exact ⟨rfl, _, rfl, .tuple #[], by simp [results, Try.results22], rfl, rfl, P1, P2, fun w0 hg h1 h2 => grown_drew (grown_put (grown_put (grown_put (grown_trans hg hgA) h1 _ _) h1 _ _) h2 _ _)⟩
theorem catch_idle (po pe : Nat) (w : World) :
    CallsD Try.prog 22 #[.pointer (some ⟨po, 0, none⟩), .pointer (some ⟨pe, 0, none⟩)] .returning w fun r u' w' => r = .returned (.tuple #[]) ∧ u' = .returning ∧ w' = w := by
  refine callsD_of_wpS Try.func22 rfl fun c₀ cs hu => ?_
  apply wpS_seq
  apply wpS_region
  simp [wpOpsS, go_sem, recoverD, hu, Try.ntmps22, Exit.thenS]
  refine wpS_of_wp ?_
  rw [show (#[Value.pointer (some ⟨po, 0, none⟩), Value.pointer (some ⟨pe, 0, none⟩)] ++ ((Array.replicate 17 undef).setIfInBounds 3 .nilIface).setIfInBounds 0 .nilIface) =
    #[Value.pointer (some ⟨po, 0, none⟩), Value.pointer (some ⟨pe, 0, none⟩), .nilIface, undef, undef, .nilIface, undef, undef, undef, undef, undef, undef, undef, undef, undef, undef, undef, undef, undef] from by kernel_rfl]
  generalize hQ : (fun e_1 a' w' => bodyPostS Try.prog _ c₀ cs _ e_1 a' _ w') = Q
  go_wp2_with fail
  rw [← hQ]
  cases c₀
  simp_all [bodyPostS, results, Try.results22]
end Go.Proofs.Ytjnbfgogmhfbiaa
