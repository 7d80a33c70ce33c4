/- The reference's StageFault, over data. -/
import Derived.Test.YtlfjpippeeikdaaGreatDoorSTab6
import Derived.Test.YtlfjpippeeikdaaGreatDoorSCt2
import Derived.Lib.Overlaps
import Derived.Lib.AppendZerosOnto
set_option linter.all false
namespace Go.Proofs.YtlfjpippeeikdaaGreatDoor
open Tryz
open Go.RowKit Go.Sort
set_option maxHeartbeats 16000000
set_option maxRecDepth 100000
theorem app_empty (a b : ByteArray) : (a ++ b = ⟨#[]⟩) ↔ (a = ⟨#[]⟩ ∧ b = ⟨#[]⟩) := by
 constructor
 ·intro h
  have hs := congrArg ByteArray.size h
  rw [ByteArray.size_append] at hs
  have h0 : (ByteArray.mk #[]).size = 0 := rfl
  rw [h0] at hs
  have f : ∀ x : ByteArray, x.size = 0 → x = ⟨#[]⟩ := fun x hx => by
   obtain ⟨d⟩ := x
   have : d = #[] := Array.eq_empty_of_size_eq_zero hx
   rw [this]
  exact ⟨f a qk, f b qk⟩
 ·rintro ⟨rfl, rfl⟩
  rfl
theorem zhO (s : SG) (ok : s.OK) : Fn prog 48 [.agg s.cells] (qd (sgE s)) [] := by
 obtain ⟨lv, rest, c, at_, err⟩ := s
 obtain ⟨okr, hl, okc, haz, hkz⟩ := ok
 dsimp only at okr hl okc haz hkz
 obtain ⟨E, hE⟩ : ∃ E, sgE ⟨lv, rest, c, at_, err⟩ = E := ⟨_, rfl⟩
 rw [hE]
 unfold sgE at hE
 dsimp only at hE
 have hCf := zaX c okc
 have hK := zbJ at_
 have hrE : restE rest = fnz (fun i => seE (seG rest i)) rest.length := rfl
 have hpl := okc.len
 generalize cfE c = ce at *
 generalize keyE at_ = k1 at *
 obtain ⟨key, port, ps⟩ := c
 dsimp only at hE hpl hkz
 change Fn prog _ [.agg [qc key, qd port, .p (.sl ps.length 5 (ps.flatMap PE.pv))]] _ _ at hCf
 show Fn prog _ [.agg (sgC lv rest.length (rest.flatMap SE.pv) key port ps.length (ps.flatMap PE.pv) at_ err)] _ _
 clear okc
 generalize ps.flatMap PE.pv = L at *
 generalize ps.length = M at *
 refine fnI fun w0 A => ?_
 refine G [12, 9, 0] ?_
 refine cX ?_ ?_ <;> intro h
 ·have h0 : lv = false := by simpa using h
  clear h
  rw [if_pos h0] at hE
  refine G [17, 2, 6] ?_
  refine mb2 _ rfl rfl (fun hb => (a_cat (s := at_) (t := key) qk rfl)) (fun _ => trivial) ?_
  refine G [1, 2, 4, 2, 1, 9, 0] ?_
  refine cX ?_ ?_ <;> intro h
  ·have h1 : 0 < rest.length ∨ at_ ≠ ⟨#[]⟩ ∨ err ≠ 0 ∨ key ≠ ⟨#[]⟩ ∨ port ≠ 0 ∨ 0 < M := by
    simp at h
    rcases h with ((q | q) | q) | q
    ·by_cases h2 : 0 < rest.length
     ·exact .inl h2
     ·exact .inr (.inr (.inr (.inr (.inr qk))))
    ·exact .inr (.inr (.inr (.inr (.inl q))))
    ·by_cases h2 : at_ = ⟨#[]⟩
     ·exact .inr (.inr (.inr (.inl fun h3 => q ((app_empty at_ key).2 ⟨h2, h3⟩))))
     ·exact .inr (.inl h2)
    ·exact .inr (.inr (.inl q))
   exact jbK
  ·have h1 : ¬ (0 < rest.length ∨ at_ ≠ ⟨#[]⟩ ∨ err ≠ 0 ∨ key ≠ ⟨#[]⟩ ∨ port ≠ 0 ∨ 0 < M) := by
    simp at h
    obtain ⟨⟨⟨q1, q2⟩, q3⟩, q4⟩ := h
    obtain ⟨q5, q6⟩ := (app_empty at_ key).1 q3
    rintro (p | p | p | p | p | p)
    ·omega
    ·exact p q5
    ·exact p q4
    ·exact p q6
    ·exact p q2
    ·omega
   rw [if_neg h1] at hE
   subst hE
   refine jcV ?_
   exact yE
 have h0 : ¬ lv = false := by simpa using h
 clear h
 rw [if_neg h0] at hE
 refine G [6] ?_
 refine cK hCf ?_
 refine jcS ?_
 refine cX ?_ ?_ <;> intro h
 ·have h1 : ce ≠ 0 := by simpa using h
  exact jaX
 have h1 : ce = 0 := by simpa using h
 clear h
 rw [if_neg (by simp [h1])] at hE
 refine G [9, 9, 0] ?_
 refine cX ?_ ?_ <;> intro h
 ·exact jcw
 have h2 : ¬ 60 < rest.length := by simp at h; omega
 clear h
 rw [if_neg h2] at hE
 refine G [10] ?_
 refine zae (fun m st => ∃ i : Nat, m + i = rest.length ∧ (∀ j, j < i → seE (seG rest j) = 0) ∧ st = St.of [(1, .ref 1 0), (50, .p (.sl rest.length 5 (rest.flatMap SE.pv))), (51, qd rest.length), (52, qd i)] [(1, .box 30 (sgC lv rest.length (rest.flatMap SE.pv) key port M L at_ err))]) rest.length ?_ ?_
 ·exact jaw
 rintro m st ⟨i, hi, hf, rfl⟩
 refine G [5] ?_
 refine cX ?_ ?_ <;> intro h
 ·have hlt : i < rest.length := by simp at h; omega
  clear h
  obtain ⟨x, hx⟩ : ∃ x, rest[i]? = some x := ⟨rest[i], List.getElem?_eq_getElem hlt⟩
  have hch := zaj (f := SE.pv) (k := 5) (fun _ => rfl) hx
  have hle := zak (f := SE.pv) (k := 5) (fun _ => rfl) hlt
  have hC := zaY x (okr x (qaE hx))
  exact jaA
 have hge : i = rest.length := by simp at h; omega
 clear h
 subst hge
 rw [hrE, zcD hf, if_neg (by simp)] at hE
 clear hf hrE
 refine G [10] ?_
 refine mb2 _ rfl rfl (fun _ => zbl func82 rfl rfl (hK) qr rfl) (fun _ => trivial) ?_
 exact jaL
def four (s : ST) : Four := (s.a.mine, s.b.mine, s.c.mine, s.h.mine)
def mostD (l : List ST) : Int := most (l.map four)
theorem four_ok (l : List ST) : ∀ (k : Nat) e q, (l.map ST.pv)[k]? = some e → (l.map four)[k]? = some q → StP e q := by
 intro k e q he hq
 rw [qbf] at he hq
 cases hs : l[k]? with
 | none => rw [hs] at he; cases he
 | some s =>
  rw [hs] at he hq
  simp only [qcc, Option.some.injEq] at he hq
  subst he hq
  exact ⟨rfl, rfl, rfl, rfl, rfl⟩
theorem tmost_s (l : List ST) (hn : l.length ≤ 1048576) : Fn prog 36 [.p (.sl l.length 41 (l.flatMap ST.pv))] (qd (mostD l)) [] := by
 have h := most_s (l.map ST.pv) (l.map four) l.length qz qz qk (four_ok l)
 rwa [← List.flatMap_def] at h
theorem rmost_s (l : List ST) (hn : l.length ≤ 1048576) : Fn prog 49 [.p (.sl l.length 41 (l.flatMap ST.pv))] (qd (mostD l)) [] := by
 have h := statesMost_s (l.map ST.pv) (l.map four) l.length qz qz qk (four_ok l)
 rwa [← List.flatMap_def] at h
def zgx (l : List ST) (m : List PE) : Bool := decide (l.map ST.key = m.map PE.key)
theorem keysB_len {l : List ST} {m : List PE} (h : l.length ≠ m.length) : zgx l m = false := by
 refine decide_eq_false fun e => h ?_
 have := congrArg List.length e
 simpa using this
theorem keysB_ne {l : List ST} {m : List PE} {i : Nat} {x : ST} {y : PE} (h1 : l[i]? = some x) (h2 : m[i]? = some y) (h : x.key ≠ y.key) : zgx l m = false := by
 refine decide_eq_false fun e => h ?_
 have := congrArg (fun z : List ByteArray => z[i]?) e
 simpa [h1, h2] using this
theorem keysB_all {l : List ST} {m : List PE} (h : l.length = m.length) (k : ∀ j, j < l.length → (l[j]?).map ST.key = (m[j]?).map PE.key) : zgx l m = true := by
 refine decide_eq_true ?_
 apply qce
 intro j
 rw [qbf, qbf]
 rcases qbH j l.length with hj | hj
 ·exact k j hj
 ·rw [qbO hj, qbO (by omega)]
  rfl
theorem chk1_s (s : ST) (p : PE) : Fn prog 38 [.agg s.cells, .agg p.cells] (qf (decide (s.key = p.key))) [] := by
 obtain ⟨k1, e1, a1, b1, c1, h1, q1⟩ := s
 obtain ⟨k2, s2, e2, a2, n2⟩ := p
 show Fn prog _ [.agg (stC k1 e1 a1 b1 c1 h1 q1.length (q1.flatMap PQ.pv)), .agg [qc k2, qc s2, qc e2, qd a2, .p (.sl n2.length 2 (n2.flatMap ntC))]] (qf (decide (k1 = k2))) _
 generalize q1.flatMap PQ.pv = L1 at *
 generalize q1.length = c at *
 generalize n2.flatMap ntC = L2 at *
 generalize n2.length = d at *
 refine fnI fun w0 A => ?_
 refine G [16, 9, 0] ?_
 exact yE
theorem keys_d (l : List ST) (m : List PE) (hl : l.length ≤ 1048576) (hm : m.length ≤ 1048576) : Fn prog 37 [.p (.sl l.length 41 (l.flatMap ST.pv)), .p (.sl m.length 5 (m.flatMap PE.pv)), .fn 38 []] (qf (zgx l m)) [] := by
 by_cases hlen : l.length = m.length
 rotate_left
 ·rw [keysB_len hlen]
  generalize l.flatMap ST.pv = L
  generalize m.flatMap PE.pv = M
  exact jaI
 obtain ⟨E, hE⟩ : ∃ E, zgx l m = E := ⟨_, rfl⟩
 rw [hE]
 refine fnI fun w0 A => ?_
 refine G [11, 3, 11] ?_
 refine zae (fun u st => ∃ i : Nat, u + i = l.length ∧ (∀ j, j < i → (l[j]?).map ST.key = (m[j]?).map PE.key) ∧ st = St.of [(1, .p (.sl m.length 5 (m.flatMap PE.pv))), (2, .fn 38 []), (15, .p (.sl l.length 41 (l.flatMap ST.pv))), (16, qd l.length), (17, qd i)] []) l.length ?_ ?_
 ·exact jav
 rintro u st ⟨i, hi, hf, rfl⟩
 refine G [5] ?_
 refine cX ?_ ?_ <;> intro h
 ·have hlt : i < l.length := by simp at h; omega
  clear h
  obtain ⟨x, hx⟩ : ∃ x, l[i]? = some x := ⟨l[i], List.getElem?_eq_getElem hlt⟩
  obtain ⟨y, hy⟩ : ∃ y, m[i]? = some y := ⟨m[i]'qk, List.getElem?_eq_getElem qk⟩
  have hch := zaj (f := ST.pv) (k := 41) (fun _ => rfl) hx
  have hle := zak (f := ST.pv) (k := 41) (fun _ => rfl) hlt
  have hch2 := zaj (f := PE.pv) (k := 5) (fun _ => rfl) hy
  have hle2 := zak (f := PE.pv) (k := 5) (fun _ => rfl) (show i < m.length by omega)
  have hbad := @keysB_ne l m i x y hx hy
  have hxy : x.key = y.key → (l[i]?).map ST.key = (m[i]?).map PE.key := fun e => by rw [hx, hy]; simp [e]
  have hC := chk1_s x y
  generalize l.flatMap ST.pv = L at *
  generalize m.flatMap PE.pv = M at *
  refine G [10] ?_
  refine jdZ (zac (Y := .agg x.cells) sz60 rfl rfl (qaB rfl)) ?_
  refine G [8] ?_
  refine jdZ (zac (Y := .agg y.cells) sz48 rfl rfl (qaB rfl)) ?_
  refine zag ?_
  by_cases he : x.key = y.key
  ·rw [decide_eq_true he] at hC
   refine G [3] ?_
   refine jdg ?_
   exact jb5
  ·rw [hbad he] at hE
   subst hE
   rw [decide_eq_false he] at hC
   refine G [3] ?_
   refine jdg ?_
   exact jb4
 have hge : i = l.length := by simp at h; omega
 clear h
 subst hge
 rw [keysB_all hlen hf] at hE
 subst hE
 refine jcV ?_
 exact yE
def okSt (ck : ByteArray) (now : Int) (s : ST) : Prop := ¬ ((ck = ⟨#[]⟩ ∧ (¬ (s.a = KY0 ∧ s.b = KY0 ∧ s.c = KY0) ∨ s.h.lv = true)) ∨ now < s.h.s)
def zg4 (d : DM) : Prop := d.gen < 0 ∨ 1099511627776 < d.gen ∨ d.now < 0 ∨ 1099511627776 < d.now ∨ d.last < mostD d.ps ∨ 4294967235 < d.last
def goodD (d : DM) : Prop := ((tOf (zav d.c.ps d.c.ps.length)).list = d.tree ∧ zgx d.ps d.c.ps = true) ∧ ∀ s ∈ d.ps, okSt d.c.key d.now s
open Classical in
noncomputable def dmE (d : DM) : Int :=
 if cfE d.c ≠ 0 then cfE d.c else if stsE d.ps ≠ 0 then stsE d.ps else if sgE d.sg ≠ 0 then sgE d.sg else if zg4 d then 4 else if goodD d then 0 else 14
end Go.Proofs.YtlfjpippeeikdaaGreatDoor
namespace Go.Proofs.YtlfjpippeeikdaaGreatDoor
open Go.RowKit Go.Sort
section
variable {w0 : World} {A S : Nat → Prop} {m : Nat → Option Value} {heap : Nat → Slot} {w w' : World}
theorem mem_say (hm : Mem w0 A S m heap w) {o : Nat} {ob ob' : AObj} {v : Value} (hl : heap o = .live ob) (hv : m o = some v) (ho : ORep w0.heap.size S m w ob' v) : Mem w0 A S m (updL heap [(o, .live ob')]) w := by
 obtain ⟨v', k1, k2, k3⟩ := hm.live o ob hl
 rw [hv] at k1; cases k1
 refine ⟨hm.bel, hm.sA, hm.sW, fun o' ho' => ?_, fun o' ob2 ho' => ?_, fun o1 o2 ob1 ob2 v1 v2 b' h1 h2 h3 h4 h5 h6 => ?_, hm.gl⟩
 ·by_cases e : o' = o
  ·subst e; simp [updL] at ho'
  ·simp only [updL, nbeq e, cond_false] at ho'
   exact hm.un o' ho'
 ·by_cases e : o' = o
  ·subst e
   simp only [updL, qbv, cond_true, Slot.live.injEq] at ho'
   subst ho'
   exact ⟨v, hv, ho, k3⟩
  ·simp only [updL, nbeq e, cond_false] at ho'
   exact hm.live o' ob2 ho'
 ·have key : ∀ {x : Nat} {obx : AObj}, updL heap [(o, .live ob')] x = .live obx → ∃ oby, heap x = .live oby := by
   intro x obx hx
   by_cases e : x = o
   ·subst e; exact ⟨ob, hl⟩
   ·simp only [updL, nbeq e, cond_false] at hx; exact ⟨obx, hx⟩
  obtain ⟨_, g1⟩ := key h1
  obtain ⟨_, g2⟩ := key h2
  exact jcx
end
theorem awp_openR {G : Env} {c : Code} {Q : Exit → St → Prop} {st : St} (o : Nat) {e size n : Nat} {cs : List PV} (h : st.heap o = .live (.row e size n cs))
 (k : ∀ cap, n ≤ cap → cap ≤ maxLen → awp G c Q ⟨st.tmps, updL st.heap [(o, .live (.rowA e size n (some cap) (cs.map AV.p)))]⟩) : awp G c Q st := by
 intro a w hs
 obtain ⟨⟨S, m, hm, hj, ht⟩, hsz, hd⟩ := hs
 obtain ⟨v, h1, h2, h3⟩ := hm.live o _ h
 obtain ⟨us, j1, j2⟩ := h2
 obtain ⟨cap, q1, q2, q3⟩ : ∃ cap, n ≤ cap ∧ cap ≤ maxLen ∧ ∃ a, v = .slice a n cap := by
  rcases j2.2 with ⟨rfl, rfl⟩ | ⟨g, cap, cur, fz, rfl, _, _, _, g4, g5, _⟩
  ·exact ⟨0, Nat.le_refl _, qbk _, none, rfl⟩
  ·exact ⟨cap, g4, g5, _, rfl⟩
 exact k cap q1 q2 a w ⟨⟨S, m, mem_say hm h h1 ⟨us, j1.repL, j2, fun k hk => by cases hk; exact q3⟩, hj, ht⟩, hsz, hd⟩
theorem zcU {st : St} (o : Nat) {e size n : Nat} {c : Option Nat} {cs : List PV} (h : st.heap o = .live (.rowA e size n c (cs.map AV.p))) : ReO st ⟨st.tmps, updL st.heap [(o, .live (.row e size n cs))]⟩ := by
 intro w0 A nt a w hs
 obtain ⟨⟨S, m, hm, hj, ht⟩, hsz, hd⟩ := hs
 obtain ⟨v, h1, h2, h3⟩ := hm.live o _ h
 obtain ⟨us, j1, j2, _⟩ := h2
 exact ⟨⟨S, m, mem_say hm h h1 ⟨us, zbI j1, j2⟩, hj, ht⟩, hsz, hd⟩
theorem zef {st : St} (o : Nat) {e size n : Nat} {cs : List PV} (h : st.heap o = .live (.row e size n cs)) : ReO st ⟨st.tmps, updL st.heap [(o, .live (.rowA e size n none (cs.map AV.p)))]⟩ := by
 intro w0 A nt a w hs
 obtain ⟨⟨S, m, hm, hj, ht⟩, hsz, hd⟩ := hs
 obtain ⟨v, h1, h2, h3⟩ := hm.live o _ h
 obtain ⟨us, j1, j2⟩ := h2
 exact ⟨⟨S, m, mem_say hm h h1 ⟨us, j1.repL, j2, fun k hk => by cases hk⟩, hj, ht⟩, hsz, hd⟩
theorem RepL.anys {S : Nat → Prop} {m : Nat → Option Value} {w : World} : ∀ us : List Value, RepL S m w (List.replicate us.length .any) us
 | [] => by simp [RepL]
 | u :: us => by
  simp only [qaO, List.replicate_succ, RepL, Rep]
  exact ⟨u, us, rfl, trivial, RepL.anys us⟩
section
variable {P : Program} {d : Option Tmp} {ty : TypeId} {pos : String} {af : Array Edge} {g : Option (Nat × Bool)}
theorem zgo (w : World) (r : Option Nat) : w.grownBy w r := ⟨rfl, rfl, rfl, Nat.le_refl _, fun _ _ _ => rfl⟩
theorem head_sl (a : Option Addr) (c k : Nat) : (∀ x, a = some x → ∃ g, x = ⟨g, 0, none⟩) → (if c = 0 then a else a.map (·.add (0 * k))) = a := fun h => by
 cases a with
 | none => simp
 | some x => obtain ⟨g, rfl⟩ := h x rfl; simp [Addr.add_mid]
theorem a_sliceUp {t e : TypeId} {x : Operand} {hi : Option Operand} {H : Option (IntKind × Int)} {o o' n c h size : Nat} {cs zs : List AV} (hu : P.underlying t = some (.slice e)) (hi' : (P.info? e).map (·.size) = some size) (hH : bOK hi H n h) (hh : n ≤ h) (hc : h ≤ c)
 (hz : cs ++ List.replicate ((h - n) * size) .any = zs) :
 AOp P ⟨d, .slice t x none hi none, ty, pos, af, g⟩ (SlOps x none hi (.row o) none H) [(o, .live (.rowA e size n (some c) cs)), (o', .un)] [(o', .live (.rowA e size h (some c) zs)), (o, .dead)] (.row o') := by
 intro w0 A S m heap w ev hm hR hrd
 have ho : heap o = .live (.rowA e size n (some c) cs) := hrd (o, _) qz
 have hd' : heap o' = .un := hrd (o', _) qz
 obtain ⟨h1, h2, h3⟩ := zcY (t := t) (lo := none) (L := none) (l := 0) (dl := 0) rfl hH hR
 simp only [Rep] at h1
 obtain ⟨hx, _⟩ := h1
 obtain ⟨v, k1, k2, k3⟩ := hm.live o _ ho
 rw [hx] at k1
 have k1 := Option.some.inj k1
 obtain ⟨us, j1, ⟨j2, j3⟩, j4⟩ := k2
 obtain ⟨a, rfl⟩ := j4 c rfl
 subst hz
 have ha : ∀ x, a = some x → ∃ g, x = ⟨g, 0, none⟩ := fun x hx => by
  exact jcq
 have hrun : (execOp ev ⟨d, .slice t x none hi none, ty, pos, af, g⟩).run P w = .ok (.value (.slice a h c)) w := by
  have := zcc (a := a) (len := n) (cap := c) hu hi' h2 h3 (qbk h) hc w
  exact jbW
 unfold Out
 rw [hrun]
 have hmd := hm.un o' hd'
 have hgr : Grow S m w S (setM m o' (.slice a h c)) w := ⟨fun _ h => h, fun b hS => rfl, fun q u hu => by
  have hne : q ≠ o' := fun e => by rw [e, hmd] at hu; cases hu
  simpa [setM, hne] using hu⟩
 have hobj : ORep w0.heap.size S (setM m o' (.slice a h c)) w (.rowA e size h (some c) (cs ++ List.replicate ((h - n) * size) .any)) (.slice a h c) := by
  rcases j3 with ⟨e1, rfl⟩ | ⟨gb, cap, cur, fz, e1, g2, g3, g4, g5, g6, g7, g8⟩
  ·cases e1
   obtain rfl : h = 0 := qk
   exact ⟨us, by simpa using RepL.mono hgr _ _ j1, ⟨by simpa using j2, .inl ⟨rfl, rfl⟩⟩, fun k hk => by cases hk; exact ⟨_, rfl⟩⟩
  ·cases e1
   have hm1 : n * size + (h - n) * size = h * size := by rw [← qbx]; congr 1; omega
   have hm2 : h * size ≤ cur.size := by rw [g7]; exact qba _ hc
   have hcl : cur.toList.length = cur.size := qbp
   have hl2 : ((cur.toList.drop (n * size)).take ((h - n) * size)).length = (h - n) * size := by rw [List.length_take, qaP]; omega
   have hu2 : cur.toList.take (h * size) = us ++ (cur.toList.drop (n * size)).take ((h - n) * size) := by
    rw [← g8, ← hm1, List.take_add]
   refine ⟨cur.toList.take (h * size), ?_, ⟨by rw [List.length_take]; omega, .inr ⟨gb, c, cur, fz, rfl, g2, g3, g4, hc, g6, g7, rfl⟩⟩, fun k hk => by cases hk; exact ⟨_, rfl⟩⟩
   rw [hu2]
   refine (RepL.mono hgr _ _ j1).append ?_
   have := RepL.anys (S := S) (m := setM m o' (.slice (some ⟨gb, 0, none⟩) h c)) (w := w) ((cur.toList.drop (n * size)).take ((h - n) * size))
   rwa [hl2] at this
 exact jbv
theorem zbg {t e e' : TypeId} {x : Operand} {lo hi : Option Operand} {L H : Option (IntKind × Int)} {o n k l h n' q size : Nat} {c : Option Nat} {cs : List AV} (hu : P.underlying t = some (.slice e)) (hi' : (P.info? e).map (·.size) = some k) (hL : bOK lo L 0 l) (hH : bOK hi H n h) (hlh : l ≤ h) (hh : h ≤ n)
 (hn : h - l = n') (hq : l * k = q) :
 AOp P ⟨d, .slice t x lo hi none, ty, pos, af, g⟩ (SlOps x lo hi (.row o) L H) [(o, .live (.rowA e' size n c cs))] [] (.psl o q n' k) :=
 zbu fun w0 A S m heap w ev hm hR hrd => by
  obtain ⟨h1, h2, h3⟩ := zcY (t := t) hL hH hR
  simp only [Rep] at h1
  obtain ⟨hx, _⟩ := h1
  obtain ⟨v, k1, k2, _⟩ := hm.live o _ (rd1 hrd)
  rw [hx] at k1
  subst hn
  obtain ⟨us, j1, ⟨j2, j3⟩, _⟩ := k2
  rcases j3 with ⟨rfl, rfl⟩ | ⟨b, cap, cur, fz, rfl, _, _, _, j4, _⟩
  ·have e1 : ev x = .slice none 0 0 := Option.some.inj k1
   refine ⟨.slice (if 0 = l then none else (none : Option Addr).map (·.add (l * k))) (h - l) (0 - l), by simp only [execOp, e1, qbG, qaK, zcc hu hi' h2 h3 hlh hh, qaD, qaL], ?_⟩
   simp only [Rep]
   exact ⟨_, _, rfl, qk, .inl qk⟩
  ·have e1 : ev x = .slice (some ⟨b, 0, none⟩) n cap := Option.some.inj k1
   refine ⟨.slice (if cap = l then some ⟨b, 0, none⟩ else (some (⟨b, 0, none⟩ : Addr)).map (·.add (l * k))) (h - l) (cap - l), by simp only [execOp, e1, qbG, qaK, zcc hu hi' h2 h3 hlh (show h ≤ cap by omega), qaD, qaL], ?_⟩
   simp only [Rep]
   refine ⟨_, _, rfl, qk, ?_⟩
   by_cases h0 : h - l = 0
   ·exact .inl h0
   ·rw [if_neg (by omega)]
    exact .inr ⟨b, _, hx, by rw [e1]; rfl, by simp [Addr.add_mid, hq]⟩
theorem a_lenRA {x : Operand} {t e e' : TypeId} {o n size : Nat} {c : Option Nat} {cs : List AV} (hu : P.underlying t = some (.slice e)) :
 AOp P ⟨d, .call { callee := .builtin .len, args := #[x], argTypes := #[t] }, ty, pos, af, g⟩ [.row o] [(o, .live (.rowA e' size n c cs))] [] (qd n) :=
 zbu fun w0 A S m heap w ev hm hR hrd => by
  have hx := zcp (u := ev x) hR
  simp only [Rep] at hx
  obtain ⟨hx, _⟩ := hx
  obtain ⟨v, k1, k2, _⟩ := hm.live o _ (rd1 hrd)
  rw [hx] at k1
  obtain ⟨us, j1, ⟨j2, j3⟩, _⟩ := k2
  rcases j3 with ⟨rfl, rfl⟩ | ⟨b, cap, cur, fz, rfl, _⟩
  ·exact ⟨_, zeN hu (Option.some.inj k1) w, za3 rfl⟩
  ·exact ⟨_, zeN hu (Option.some.inj k1) w, za3 rfl⟩
theorem ziJ {x : Operand} {t e e' : TypeId} {o n size c : Nat} {cs : List AV} (hu : P.underlying t = some (.slice e)) :
 AOp P ⟨d, .call { callee := .builtin .cap, args := #[x], argTypes := #[t] }, ty, pos, af, g⟩ [.row o] [(o, .live (.rowA e' size n (some c) cs))] [] (qd c) :=
 zbu fun w0 A S m heap w ev hm hR hrd => by
  have hx := zcp (u := ev x) hR
  simp only [Rep] at hx
  obtain ⟨hx, _⟩ := hx
  obtain ⟨v, k1, k2, _⟩ := hm.live o _ (rd1 hrd)
  rw [hx] at k1
  obtain ⟨us, j1, j2, j3⟩ := k2
  obtain ⟨a, rfl⟩ := j3 c rfl
  have e1 := Option.some.inj k1
  exact ⟨goInt c, by simp [execOp, resolve, invoke, builtin, e1, Builtin.cap_, run_underlying hu], za3 rfl⟩
theorem zaF {x y : Operand} {t e e' : TypeId} {k : Nat} {kk : IntKind} {i : Int} {o n size : Nat} {c : Option Nat} {cs : List AV} (hu : P.underlying t = some (.slice e)) (hi : (P.info? e).map (·.size) = some k) (h0 : 0 ≤ i) (h1 : i < n) {q : Nat} (hq : i.toNat * k = q) :
 AOp P ⟨d, .indexAddr t x y, ty, pos, af, g⟩ [.row o, .p (.v (.int kk i))] [(o, .live (.rowA e' size n c cs))] [] (.ref o q) :=
 zbu fun w0 A S m heap w ev hm hR hrd => by
  obtain ⟨hx, hy⟩ := zci (u := ev x) (v := ev y) hR
  simp only [Rep] at hx
  obtain ⟨hx, _⟩ := hx
  obtain ⟨v, k1, k2, _⟩ := hm.live o _ (rd1 hrd)
  rw [hx] at k1
  obtain ⟨us, j1, ⟨j2, j3⟩, _⟩ := k2
  rcases j3 with ⟨rfl, h⟩ | ⟨b, cap, cur, fz, rfl, _⟩
  ·omega
  have e1 : ev x = .slice (some ⟨b, 0, none⟩) n cap := Option.some.inj k1
  refine ⟨.pointer (some ⟨b, q, none⟩), by simp [execOp, e1, zba hy, zeO hu hi h0 h1, hq], ?_⟩
  simp only [Rep]
  exact ⟨b, _, hx, by rw [e1]; rfl, rfl⟩
theorem zbv {x : Operand} {t e : TypeId} {ds : TypeDesc} {o off size n : Nat} {c : Option Nat} {cs : List AV} {r : AV} (hu : P.underlying t = some ds) (hd : ds.isRow = false) (h : cs[off]? = some r) :
 AOp P ⟨d, .load t x, ty, pos, af, g⟩ [.ref o off] [(o, .live (.rowA e size n c cs))] [] r :=
 zbu fun w0 A S m heap w ev hm hR hrd => by
  have ho : heap o = .live (.rowA e size n c cs) := rd1 hrd
  have hx := zcp (u := ev x) hR
  simp only [Rep] at hx
  obtain ⟨b, v0, h1, h2, h3⟩ := hx
  obtain ⟨v, k1, k2, _⟩ := hm.live o _ ho
  rw [h1] at k1; cases k1
  obtain ⟨us, j1, j3, _⟩ := k2
  obtain ⟨u, i1, i2⟩ := j1.at_ h
  have hc := zbG j3 h2 off u i1
  rw [Nat.zero_add] at hc
  exact ⟨u, by simp [execOp, h3, zfh hu hd hc], i2⟩
theorem setR_take {α : Type} {l vs : List α} {d N : Nat} (h : d + vs.length ≤ N) : (setR l d vs).take N = setR (l.take N) d vs := by
 unfold setR
 rw [List.take_append, List.take_append, qbT, Nat.min_eq_right (by omega : d ≤ N)]
 by_cases hd : d ≤ l.length
 ·have e1 : (l.take d).length = d := by rw [List.length_take]; omega
  rw [qaC, e1, List.drop_take, qbT, Nat.min_eq_left (by omega), qaN (by omega : vs.length ≤ N - d)]
 ·have e1 : (l.take d).length = l.length := by rw [List.length_take]; omega
  have e2 : l.drop (d + vs.length) = [] := qbe qk
  have e3 : (l.take N).drop (d + vs.length) = [] := qbe qW
  rw [qaC, e1, e2, e3, qaN (l := vs) (by omega), List.take_nil, qbT, Nat.min_eq_left (by omega)]
theorem zg2 {w : World} {B b : Nat} {e : TypeId} {size n d : Nat} {v : Value} {us vs : List Value} (h : ziK w B e size v n us) (hb : blk v = some b) (hd : d + vs.length ≤ us.length) :
 ∃ cur fz, w.heap[b]? = some (.cells cur e fz) ∧ noFz fz cur.size ∧ us.length ≤ cur.size ∧ ziK (w.setRow b (setR cur.toList d vs).toArray) B e size v n (setR us d vs) := by
 obtain ⟨h1, h2⟩ := h
 rcases h2 with ⟨rfl, _⟩ | ⟨g, cap, cur, fz, rfl, g1, g2, g3, g4, g5, g6, g7⟩
 ·simp [blk] at hb
 obtain rfl : g = b := by simpa [blk] using hb
 have hle : n * size ≤ cur.size := by rw [g6]; exact qba _ g4
 have hfit : d + vs.length ≤ cur.toList.length := by simp only [qbp]; omega
 have hsz : (setR cur.toList d vs).toArray.size = cur.size := by simp only [qbF]; rw [zbw hfit]; simp
 refine ⟨cur, fz, g2, g3, qk, by rw [zbw hd]; exact h1, .inr ⟨g, cap, _, fz, rfl, g1, setRow_heap w g _ _ e fz g2, by rw [hsz]; exact g3, g4, g5, by rw [hsz]; exact g6, ?_⟩⟩
 show (setR cur.toList d vs).take (n * size) = _
 rw [setR_take (by omega), g7]
theorem zco {x y : Operand} {t e : TypeId} {o off k size n : Nat} {c : Option Nat} {cs es : List AV} {Y : AV} (hi : (P.info? t).map (·.size) = some k) (hY : Y.stor = true) (hl : Y.cells.length = k) (hk : off + k ≤ cs.length) (h : setR cs off Y.cells = es) :
 AOp P ⟨d, .store t x y, ty, pos, af, g⟩ [.ref o off, Y] [(o, .live (.rowA e size n c cs))] [(o, .live (.rowA e size n c es))] .any := by
 intro w0 A S m heap w ev hm hR hrd
 have ho : heap o = .live (.rowA e size n c cs) := rd1 hrd
 obtain ⟨hx, hy⟩ := zci (u := ev x) (v := ev y) hR
 simp only [Rep] at hx
 obtain ⟨b, v0, h1, h2, h3⟩ := hx
 obtain ⟨v, k1, k2, k3⟩ := hm.live o _ ho
 rw [h1] at k1; cases k1
 obtain ⟨us, j1, j2, j3⟩ := k2
 obtain ⟨c1, c2⟩ := zcy hy hY
 have hl1 := j1.length
 have hl2 := c1.length
 obtain ⟨cur, fz, q1, q2, q4, q3⟩ := zg2 (d := off) (vs := (ev y).cells.toList) j2 h2 qk
 have hrun := zdq hi q1 q2.cells (by rw [hl2, hl]) c2 (off := off) qk
 have hex : (execOp ev ⟨d, .store t x y, ty, pos, af, g⟩).run P w = .ok .skip (w.setRow b (setR cur.toList off (ev y).cells.toList).toArray) := by
  simp only [execOp, h3, qaK, hrun, qaD, qaL]
 unfold Out
 rw [hex]
 have hgr : Grow S m w S m (w.setRow b (setR cur.toList off (ev y).cells.toList).toArray) := ⟨fun _ h => h, fun c hS => setRow_other w b c _ (fun e => k3 b h2 (e ▸ hS)), fun _ _ h => h⟩
 obtain ⟨f1, f2⟩ := zeo hm (ob' := .rowA e size n c es) (v := v0) (b := b) (setR cur.toList off (ev y).cells.toList).toArray (cur := cur) (t := e) (fz := fz) ho h1 h2
  ⟨_, h ▸ RepL.mono hgr _ _ (j1.setR off c1), q3, j3⟩
 exact ⟨S, m, by simp only [Rep], f1, f2⟩
def SrcQ (rds : List (Nat × Slot)) (x : AV) (m q size : Nat) (cs : List PV) : Prop :=
 ∀ (w0 : World) (A S : Nat → Prop) (mm : Nat → Option Value) (heap : Nat → Slot) (w : World) (u : Value), Mem w0 A S mm heap w → (∀ p ∈ rds, heap p.1 = p.2) → Rep S mm w x u →
  ∃ a c vs, u = .slice a m c ∧ PRepL S w cs vs ∧ vs.length = q * size ∧ (a = none → m = 0) ∧ (∀ ad, a = some ad → ∀ j v, vs[j]? = some v → w.cell? (ad.add j) = some v)
theorem srcQ {rds : List (Nat × Slot)} {x : AV} {m size : Nat} {cs : List PV} (h : Src rds x m size cs) : SrcQ rds x m m size cs := h
theorem zfe {o off m q : Nat} {e : TypeId} {size n size' : Nat} {c : Option Nat} {cs : List AV} {ds : List PV} (hqm : q ≤ m) (hk : off + q * size ≤ cs.length) (hd : (cs.drop off).take (q * size) = ds.map AV.p) : SrcQ [(o, .live (.rowA e size' n c cs))] (.psl o off m size) m q size ds := by
 intro w0 A S mm heap w u hm hrd hr
 simp only [Rep] at hr
 obtain ⟨a, cap, rfl, h2, h3⟩ := hr
 obtain ⟨v, k1, k2, _⟩ := hm.live o _ (rd1 hrd)
 obtain ⟨us, j1, j2, _⟩ := k2
 have hl := j1.length
 have hr2 := fun b hb => zbG j2 (b := b) hb
 have hlen : ((us.drop off).take (q * size)).length = q * size := by rw [List.length_take, qaP]; omega
 have hrep : RepL S mm w (ds.map AV.p) ((us.drop off).take (q * size)) := by rw [← hd]; exact (j1.drop off).take _
 refine ⟨a, cap, (us.drop off).take (q * size), rfl, zbI hrep, hlen, fun ha => ?_, fun ad ha j x hj => ?_⟩
 ·rcases h3 with h3 | ⟨b, v0, _, _, h6⟩
  ·exact h3
  ·rw [ha] at h6; cases h6
 ·rcases h3 with h3 | ⟨b, v0, h4, h5, h6⟩
  ·subst h3
   obtain rfl : q = 0 := qk
   have : (us.drop off).take (0 * size) = [] := qaQ (by rw [hlen]; simp)
   rw [this] at hj; simp at hj
  ·rw [ha] at h6; cases h6
   rw [k1] at h4; cases h4
   rw [Addr.add_mid]; exact zeh (hr2 b h5) j x hj
theorem zdp {s x : Operand} {t t2 e : TypeId} {o off n1 m q n size : Nat} {c : Option Nat} {cs es : List AV} {ys : List PV} {X : AV} {rds : List (Nat × Slot)} (hu : P.underlying t = some (.slice e)) (hi : (P.info? e).map (·.size) = some size) (hs : SrcQ rds X m q size ys) (hq : min n1 m = q) (h1 : 1 ≤ q)
 (hk : off + q * size ≤ cs.length) (h : setR cs off (ys.map AV.p) = es) :
 AOp P ⟨d, .call { callee := .builtin .copy, args := #[s, x], argTypes := #[t, t2] }, ty, pos, af, g⟩ [.psl o off n1 size, X] ((o, .live (.rowA e size n c cs)) :: rds) [(o, .live (.rowA e size n c es))] (qd q) := by
 intro w0 A S mm heap w ev hm hR hrd
 have ho : heap o = .live (.rowA e size n c cs) := hrd (o, _) qz
 obtain ⟨hx, hy⟩ := zci (u := ev s) (v := ev x) hR
 obtain ⟨a, c', vs, e1, e2, e3, e4, e5⟩ := hs w0 A S mm heap w _ hm (fun p hp => hrd p qar) hy
 simp only [Rep] at hx
 obtain ⟨a1, cap1, d1, d2, d3⟩ := hx
 obtain ⟨b, v0, d4, d5, d6⟩ : ∃ b v0, mm o = some v0 ∧ blk v0 = some b ∧ a1 = some ⟨b, off, none⟩ := by
  rcases d3 with d3 | d3
  ·omega
  ·exact d3
 subst d6
 obtain ⟨v, k1, k2, k3⟩ := hm.live o _ ho
 rw [d4] at k1; cases k1
 obtain ⟨us, j1, j2, j3⟩ := k2
 have hl1 := j1.length
 obtain ⟨ad, rfl⟩ : ∃ ad, a = some ad := by
  cases a with
  | none => exact absurd (e4 rfl) qk
  | some ad => exact ⟨ad, rfl⟩
 obtain ⟨cur, fz, q1, q2, q4, q3⟩ := zg2 (d := off) (vs := vs) j2 d5 qk
 have hl := run_loadCells_list (P := P) w ad vs (e5 ad rfl)
 have hst := zbB P b off e fz vs 0 cur w q1 q2.cells qk e2.one
 have hex : (execOp ev ⟨d, .call { callee := .builtin .copy, args := #[s, x], argTypes := #[t, t2] }, ty, pos, af, g⟩).run P w = .ok (.value (.int .i64 q)) (w.setRow b (setR cur.toList off vs).toArray) := by
  cases hq' : P.info? e with
  | none => simp [hq'] at hi
  | some i =>
   have hi' : i.size = size := by simpa [hq'] using hi
   have hmin : Nat.min m n1 = q := by rw [← hq]; exact Nat.min_comm _ _
   simp only [qbi] at hst
   simp [execOp, resolve, invoke, builtin, d1, e1, Builtin.copy_, run_underlying hu, Builtin.lenOf, Builtin.firstCells, sizeOf, typeInfo, hq', hi', hmin, ← e3, hl, hst, setR, goInt]
 unfold Out
 rw [hex]
 have hgr : Grow S mm w S mm (w.setRow b (setR cur.toList off vs).toArray) := ⟨fun _ h => h, fun c hS => setRow_other w b c _ (fun e => k3 b d5 (e ▸ hS)), fun _ _ h => h⟩
 obtain ⟨f1, f2⟩ := zeo hm (ob' := .rowA e size n c es) (v := v0) (b := b) (setR cur.toList off vs).toArray (cur := cur) (t := e) (fz := fz) ho d4 d5
  ⟨_, h ▸ RepL.mono hgr _ _ (j1.setR off e2.repL), q3, j3⟩
 exact ⟨S, mm, za3 rfl, f1, f2⟩
end
end Go.Proofs.YtlfjpippeeikdaaGreatDoor
