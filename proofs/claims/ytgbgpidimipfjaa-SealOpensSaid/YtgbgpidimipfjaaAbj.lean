/- Arms that meet, over data. -/
import Derived.Test.YtgbgpidimipfjaaAbz
namespace Go.Proofs.Ytgbgpidimipfjaa
open Go.RowKit Go.Sort
set_option linter.unusedVariables false
/-- two arms that meet: a state that both restate to -/
theorem awp_join {G : Env} {c d : Code} {Q : Exit → St → Prop} {st : St} (st1 : St) (h : awp G c (fun e st' => e = .normal ∧ Re st' st1) st) (k : awp G d Q st1) : awp G c (Thn (awp G d Q) Q) st :=
  fun a w hs => wp_mono (h a w hs) fun e a' w' ⟨st', ⟨h1, h2⟩, h3⟩ => by
    subst h1
    exact ⟨st1, k, h2 _ _ _ _ _ h3⟩
end Go.Proofs.Ytgbgpidimipfjaa
