/- The mutations: a node's style is one that style.May's contract knows. -/
import Derived.Test.YtjnbfgogmhfbiaaVc
import Derived.Test.YtjnbfgogmhfbiaaVs
namespace Go.Proofs.Ytjnbfgogmhfbiaa
open Go Go.RowKit
theorem stymay_tells (s : Sty) (w : World) (hs : s.ok) : Calls Try.prog 27 #[.agg s.cells] w fun e w' => e = .returned (.bool (mayB s)) ∧ w.grownBy w' none := stmay_any s w hs
theorem sty_of {x : List Value} (hx : OkAll nodeLs x) : ∃ s : Sty, s.ok ∧ s.cells = (styN x).toArray := by
  obtain ⟨s, h1, h2⟩ := Sty.open (show OkAll styL (styN x) from styN_ok hx)
  exact ⟨s, h1, by rw [h2]⟩
end Go.Proofs.Ytjnbfgogmhfbiaa
