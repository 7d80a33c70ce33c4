/- The machine over data: a nil slice in a variable is an own row of no elements. -/
import Derived.Test.YtkdfdcodkeclmaaGreatDoorSMa4
namespace Go.Proofs.YtkdfdcodkeclmaaGreatDoor
open Go.RowKit Go.Sort
set_option linter.unusedVariables false
set_option linter.unusedSimpArgs false
theorem set_here {α : Type} {l : List α} {i : Nat} {x : α} (h : l[i]? = some x) : l.set i x = l := by
 apply List.ext_getElem?
 intro j
 rw [List.getElem?_set]
 by_cases e : i = j
 ·subst e
  obtain ⟨h1, h2⟩ := List.getElem?_eq_some_iff.1 h
  simp [h1, h2]
 ·simp [e]
theorem re_nilB {st : St} (q : Nat) {ty : TypeId} {cs : List AV} (k o e size : Nat) (hq : st.heap q = .live (.box ty cs)) (hk : cs[k]? = some (.p (.v (.slice none 0 0)))) (ho : st.heap o = .un) :
  Re st (st.upd [(q, .live (.box ty (cs.set k (.row o)))), (o, .live (.row e size 0 []))]) := by
 rintro w0 A nt a w ⟨⟨S, m, hm, hj, hr⟩, hsz, hd⟩
 have hmo := hm.un o ho
 have hqo : q ≠ o := fun e => by rw [e, ho] at hq; cases hq
 have g : Grow S m w S (fun x => if x = o then some (.slice none 0 0) else m x) w := ⟨fun _ h => h, fun _ _ => rfl, fun x v h => by
  by_cases hx : x = o
  ·subst hx; rw [hmo] at h; cases h
  ·simp only [if_neg hx]; exact h⟩
 refine ⟨⟨S, fun x => if x = o then some (.slice none 0 0) else m x, ?_, hj, fun t' => ?_⟩, hsz, hd⟩
 ·have key : ∀ x ob, (st.upd [(q, .live (.box ty (cs.set k (.row o)))), (o, .live (.row e size 0 []))]).heap x = .live ob → x ≠ o → ∃ ob', st.heap x = .live ob' := fun x ob hx e1 => by
   by_cases e2 : x = q
   ·subst e2; exact ⟨_, hq⟩
   ·exact ⟨ob, by simpa [St.upd, updL, nbeq e1, nbeq e2] using hx⟩
  refine ⟨hm.bel, hm.sA, hm.sW, fun x hx => ?_, fun x ob hx => ?_, fun x x' ob ob' v v' b hx hx' hv hv' hb hb' => ?_, hm.gl⟩
  ·by_cases e2 : x = q
   ·subst e2; simp [St.upd, updL] at hx
   by_cases e1 : x = o
   ·subst e1; simp [St.upd, updL, nbeq e2] at hx
   ·simp only [if_neg e1]
    refine hm.un x ?_
    simpa [St.upd, updL, nbeq e1, nbeq e2] using hx
  ·by_cases e2 : x = q
   ·subst e2
    have hob : ob = .box ty (cs.set k (.row o)) := by
     simp [St.upd, updL] at hx
     exact hx.symm
    subst hob
    obtain ⟨v, h1, ⟨b, us, q1, q2, q3, q4, q5⟩, h3⟩ := hm.live x _ hq
    refine ⟨v, by simp only [if_neg hqo]; exact h1, ⟨b, us, q1, q2, ?_, q4, q5⟩, h3⟩
    obtain ⟨u, hu1, hu2⟩ := q3.at_ hk
    simp only [Rep, PRep] at hu2
    have := (RepL.mono g _ _ q3).set k (c := .row o) (u := u) (by
     simp only [Rep]
     rw [hu2.1]
     exact ⟨by simp, _, _, _, rfl⟩)
    rwa [set_here hu1] at this
   by_cases e1 : x = o
   ·subst e1
    simp [St.upd, updL, nbeq e2] at hx
    subst hx
    refine ⟨.slice none 0 0, by simp, ⟨[], by simp [PRepL], by simp, .inl ⟨rfl, rfl⟩⟩, fun b hb => by simp [blk] at hb⟩
   ·have hx' : st.heap x = .live ob := by simpa [St.upd, updL, nbeq e1, nbeq e2] using hx
    obtain ⟨v, h1, h2, h3⟩ := hm.live x ob hx'
    exact ⟨v, by simp only [if_neg e1]; exact h1, h2.mono g fun _ _ => rfl, h3⟩
  ·by_cases e1 : x = o
   ·subst e1; simp at hv; subst hv; simp [blk] at hb
   ·by_cases e2 : x' = o
    ·subst e2; simp at hv'; subst hv'; simp [blk] at hb'
    ·simp only [if_neg e1] at hv
     simp only [if_neg e2] at hv'
     obtain ⟨o1, k1⟩ := key x ob hx e1
     obtain ⟨o2, k2⟩ := key x' ob' hx' e2
     exact hm.inj x x' o1 o2 v v' b k1 k2 hv hv' hb hb'
 ·exact Rep.mono g _ _ (hr t')
end Go.Proofs.YtkdfdcodkeclmaaGreatDoor
