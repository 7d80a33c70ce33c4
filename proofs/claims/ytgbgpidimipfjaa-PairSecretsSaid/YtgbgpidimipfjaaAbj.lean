/- Arms that meet, over data. -/
import Derived.Test.YtgbgpidimipfjaaAbz
namespace Go.Proofs.Ytgbgpidimipfjaa
open Go.RowKit Go.Sort
set_option linter.unusedVariables false
/-- two arms that meet: a state that both restate to -/
theorem awp_join {P : Program} {w0 : World} {A : Nat → Prop} {nt : Nat} {c d : Code} {Q : Exit → St → Prop} {st : St} (st1 : St) (h : awp ⟨P, w0, ctx0 A, nt⟩ c (fun e st' => e = .normal ∧ Re st' st1) st) (k : awp ⟨P, w0, ctx0 A, nt⟩ d Q st1) : awp ⟨P, w0, ctx0 A, nt⟩ c (Thn (awp ⟨P, w0, ctx0 A, nt⟩ d Q) Q) st :=
  fun a w hs => wp_mono (h a w hs) fun e a' w' ⟨st', ⟨h1, h2⟩, h3⟩ => by
    subst h1
    exact ⟨st1, k, h2 _ _ _ _ _ h3⟩
theorem awp_joinK {P : Program} {w0 : World} {A : Nat → Prop} {nt : Nat} {c : Code} {Q : Exit → St → Prop} {st : St} (st1 : St) (h : awp ⟨P, w0, ctx0 A, nt⟩ c (fun e st' => e = .normal ∧ Re st' st1) st) (k : ∀ st', Re st' st1 → Q .normal st') : awp ⟨P, w0, ctx0 A, nt⟩ c Q st :=
  awp_mono h fun e st' ⟨h1, h2⟩ => by subst h1; exact k st' h2
end Go.Proofs.Ytgbgpidimipfjaa
