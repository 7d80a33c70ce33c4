/- A daemon of one's own states and letters; the empty daemon; what a right daemon promises. -/
import Derived.Test.YtlfjpippeeikdaaGreatDoorSFr
set_option linter.all false
namespace Go.Proofs.YtlfjpippeeikdaaGreatDoor
open Go.RowKit Go.Sort
set_option maxRecDepth 100000
theorem fm_get {α β : Type} {f : α → List β} {k : Nat} (hf : ∀ x, (f x).length = k) {l : List α} {i : Nat} {x : α} (hx : l[i]? = some x) {q : Nat} (hq : q < k) : (l.flatMap f)[i * k + q]? = (f x)[q]? := by
 have h := zaj (f := f) (k := k) hf hx
 rw [← h, qa9, if_pos hq, qa8]
theorem fm_drop {α β : Type} {f : α → List β} {k : Nat} (hf : ∀ x, (f x).length = k) {l : List α} {i : Nat} {x : α} (hx : l[i]? = some x) {q n : Nat} (hq : q + n ≤ k) : ((l.flatMap f).drop (i * k + q)).take n = ((f x).drop q).take n := by
 have h := zaj (f := f) (k := k) hf hx
 rw [← h, List.drop_take, qbT, qbK, Nat.min_eq_left (by omega)]
def moV (d : DM) (S L : AV) : List AV := [qc d.c.key, qd d.c.port, .p (.sl d.c.ps.length 5 (d.c.ps.flatMap PE.pv)), .p (ndsV d.tree), S, qf d.sg.lv, .p (sesV d.sg.rest), qc d.sg.c.key, qd d.sg.c.port, .p d.sg.c.row, qc d.sg.at_, qd d.sg.err, qd d.gen, qd d.now, qd d.last, L]
def moD (d : DM) (S : AV) : List AV := (moV d S .any).take 15
def zdmC : List AV := dmC ⟨#[]⟩ 0 (.v (.slice none 0 0)) (.v (.slice none 0 0)) (.v (.slice none 0 0)) false (.v (.slice none 0 0)) ⟨#[]⟩ 0 (.v (.slice none 0 0)) ⟨#[]⟩ 0 0 0 0
def dm0 : DM := ⟨⟨⟨#[]⟩, 0, []⟩, [], [], ⟨false, [], ⟨⟨#[]⟩, 0, []⟩, ⟨#[]⟩, 0⟩, 0, 0, 0⟩
theorem zdm_nz : nzL zdmC dm0.cells :=
 ⟨.inl rfl, .inl rfl, .inr ⟨5, rfl, rfl⟩, .inr ⟨4, rfl, rfl⟩, .inr ⟨41, rfl, rfl⟩, .inl rfl, .inr ⟨5, rfl, rfl⟩, .inl rfl, .inl rfl, .inr ⟨5, rfl, rfl⟩, .inl rfl, .inl rfl, .inl rfl, .inl rfl, .inl rfl, trivial⟩
theorem cf0_ok : CF.OK ⟨⟨#[]⟩, 0, []⟩ := ⟨qz, fun p h => by cases h⟩
theorem dm0_ok : dm0.OK := ⟨cf0_ok, (fun x h => by cases h), by simp [dm0], (fun x h => by cases h), by simp [dm0], ⟨(fun x h => by cases h), by simp [dm0], cf0_ok, qw, qw⟩⟩
theorem dm_good {d : DM} (h : dmE d = 0) : cfE d.c = 0 ∧ stsE d.ps = 0 ∧ sgE d.sg = 0 ∧ ¬ zg4 d ∧ goodD d := by
 unfold dmE at h
 by_cases h1 : cfE d.c = 0
 ·rw [if_neg (by simp [h1])] at h
  by_cases h2 : stsE d.ps = 0
  ·rw [if_neg (by simp [h2])] at h
   by_cases h3 : sgE d.sg = 0
   ·rw [if_neg (by simp [h3])] at h
    by_cases h4 : zg4 d
    ·rw [if_pos h4] at h; omega
    ·rw [if_neg h4] at h
     by_cases h5 : goodD d
     ·exact ⟨h1, h2, h3, h4, h5⟩
     ·rw [if_neg h5] at h; omega
   ·rw [if_pos h3] at h; exact absurd h h3
  ·rw [if_pos h2] at h; exact absurd h h2
 ·rw [if_pos h1] at h; exact absurd h h1
end Go.Proofs.YtlfjpippeeikdaaGreatDoor
namespace Go.Proofs.YtlfjpippeeikdaaGreatDoor
open Tryz
open Go.RowKit Go.Sort
set_option maxHeartbeats 16000000
set_option maxRecDepth 100000
theorem bclone_s (n : Nat) (xs : List Int) (hx : xs.length = n) (hn : n ≤ 140737488355328) : Fn prog 81 [.p (.sl n 1 (bs xs))] (.row 0) [(0, .row 5 1 n (bs xs))] := by
 refine fnI fun w0 A => ?_
 refine G [4] ?_
 by_cases h0 : n = 0
 ·subst h0
  obtain rfl : xs = [] := qaQ hx
  refine G [4] ?_
  refine jdY (a_seqX U91) ?_
  refine zag (zaE (zfF rfl ?_ ?_))
  ·refine G [4, 9, 0] ?_
   refine zaH (zbY 2 100 5 1 rfl rfl) ?_
   refine zaB (zbs ?_)
   exact jbc
  ·refine G [3] ?_
   refine jdZ (za6 5 U91 sz5) ?_
   refine mP rfl rfl ?_
   refine zab (zaq 7 U91 eo5 (zdh) qy qk rfl rfl) rfl rfl ⟨rfl, rfl, trivial⟩ ?_
   exact jaZ
 ·refine G [4] ?_
  refine zaa (a_seqS U91 qk) rfl rfl ?_
  refine zag (zaE (cX (fun h => ?_) fun h => ?_))
  ·cases h
  ·refine G [3] ?_
   refine jdZ (za6 5 U91 sz5) ?_
   refine mP rfl rfl ?_
   refine zab (zaq 7 U91 eo5 (zdh) qy qk (show _ = n by omega) rfl) rfl rfl ⟨rfl, rfl, trivial⟩ ?_
   refine jdc ?_
   refine yT (fun _ => 7) ?_ ?_
   ·exact rfl
   ·exact ⟨⟨rfl, rfl⟩, trivial⟩
theorem pq_push (l : List PQ) (i : Nat) (p : PQ) (h : l[i]? = some p) : (l.take i).flatMap PQ.pv ++ [qi p.a, qi p.b, .sl p.xs.length 1 (bs p.xs)] = (l.take (i + 1)).flatMap PQ.pv := by
 obtain ⟨h1, h2⟩ := qaG.1 h
 rw [qaM h1, h2, qaX]
 simp [PQ.pv]
theorem st_push (l : List ST) (i : Nat) (s : ST) (h : l[i]? = some s) : (l.take i).flatMap ST.pv ++ s.pv = (l.take (i + 1)).flatMap ST.pv := by
 obtain ⟨h1, h2⟩ := qaG.1 h
 exact jbP
theorem tcopy_s (l : List ST) (ok : ∀ s ∈ l, s.OK) (hn : l.length ≤ 1048576) : Fn prog 43 [.p (.sl l.length 41 (l.flatMap ST.pv))] (.row 0) [(0, .row 60 41 l.length (l.flatMap ST.pv))] := by
 refine fnI fun w0 A => ?_
 refine G [8] ?_
 refine zab (zhB 11 U26 eo60 qk qk qy) rfl rfl ⟨rfl, trivial⟩ ?_
 refine G [10] ?_
 refine zae (fun m st => ∃ i : Nat, m + i = l.length ∧ st = St.of [(3, .row 100), (12, .p (.sl l.length 41 (l.flatMap ST.pv))), (13, qd l.length), (14, qd i)] [(100, .row 60 41 i ((l.take i).flatMap ST.pv))]) l.length ?_ ?_
 ·refine ⟨_, zad (fun _ => 11) _ _ ?_ ?_ rfl, 0, qk, rfl⟩
  ·exact ja5
  ·exact ⟨⟨rfl, rfl⟩, trivial⟩
 rintro m st ⟨i, hi, rfl⟩
 refine G [5] ?_
 refine cX ?_ ?_ <;> intro h
 ·have hlt : i < l.length := by simp at h; omega
  clear h
  obtain ⟨s, hs⟩ : ∃ s, l[i]? = some s := ⟨l[i], List.getElem?_eq_getElem hlt⟩
  have hch := zaj (f := ST.pv) (k := 41) (fun _ => rfl) hs
  have hle := zak (f := ST.pv) (k := 41) (fun _ => rfl) hlt
  obtain ⟨_, _, _, _, hq, hqx⟩ := ok s (qaE hs)
  have hpush := st_push l i s hs
  have hil : ((l.take i).flatMap ST.pv).length = i * 41 := by rw [zas (k := 41) (fun _ => rfl), List.length_take, Nat.min_eq_left (by omega)]
  generalize hL : l.flatMap ST.pv = L at *
  generalize (l.take i).flatMap ST.pv = T at *
  obtain ⟨key, ep, a, b, c, hh, q⟩ := s
  dsimp only at hq hqx
  refine G [8] ?_
  refine jdu ?_
  refine G [6] ?_
  refine zab (zhB 21 U58 eo93 qk qk qy) rfl rfl ⟨rfl, trivial⟩ ?_
  refine G [11] ?_
  refine zae (fun m' st => ∃ j : Nat, m' + j = q.length ∧ st = St.of [(3, .row 100), (5, .ref 5 0), (6, .row 101), (12, .p (.sl l.length 41 L)), (13, qd l.length), (14, qd i), (23, .p (.sl q.length 3 (q.flatMap PQ.pv))), (24, qd q.length), (25, qd j)] [(5, .box 60 (stC key ep a b c hh q.length (q.flatMap PQ.pv))), (100, .row 60 41 i T), (101, .row 93 3 j ((q.take j).flatMap PQ.pv))]) q.length ?_ ?_
  ·refine ⟨_, zad (fun o => bif Nat.beq o 101 then 21 else o) _ _ ?_ ?_ rfl, 0, qk, rfl⟩
   ·exact ja5
   ·exact jaP
  rintro m' st ⟨j, hj, rfl⟩
  refine G [5] ?_
  refine cX ?_ ?_ <;> intro h
  ·have hlj : j < q.length := by simp at h; omega
   clear h
   obtain ⟨p, hp⟩ : ∃ p, q[j]? = some p := ⟨q[j], List.getElem?_eq_getElem hlj⟩
   have hch2 := zaj (f := PQ.pv) (k := 3) (fun _ => rfl) hp
   have hle2 := zak (f := PQ.pv) (k := 3) (fun _ => rfl) hlj
   have hC := bclone_s p.xs.length p.xs rfl (by have := hqx p (qaE hp); omega)
   have hpp := pq_push q j p hp
   have hjl : ((q.take j).flatMap PQ.pv).length = j * 3 := by rw [zas (k := 3) (fun _ => rfl), List.length_take, Nat.min_eq_left (by omega)]
   generalize hQ : q.flatMap PQ.pv = Q at *
   generalize (q.take j).flatMap PQ.pv = V at *
   obtain ⟨pa, pb, xs⟩ := p
   dsimp only at hC hpp
   refine G [8] ?_
   refine jdZ (zac (Y := .agg [qe pa, qe pb, .p (.sl xs.length 1 (bs xs))]) sz93 rfl rfl (qaB rfl)) ?_
   refine G [5] ?_
   refine zaM (fun _ => 31) (hC) rfl rfl func81 rfl rfl qr rfl rfl rfl ql rfl rfl rfl ?_
   refine G [3] ?_
   refine zbd (zdO (cs := bs xs) 31 rfl) ?_
   skip
   refine G [3] ?_
   refine jdZ (zai 35 U58 sz93 zc93 (qaA rfl) (qaA rfl) rfl rfl rfl rfl (qaA rfl)) ?_
   refine zab (zaq 36 U58 eo93 (zaU) qy qk rfl rfl) rfl rfl ⟨rfl, rfl, rfl, trivial⟩ ?_
   refine jcV ?_
   refine ⟨m' - 1, qk, _, zad (fun o => bif Nat.beq o 101 then 36 else o) _ _ ?_ ?_ rfl, j + 1, qk, rfl⟩
   ·exact ja5
   ·exact ⟨⟨rfl, rfl⟩, ⟨rfl, rfl⟩, ⟨by rw [← hpp]; rfl, rfl⟩, trivial⟩
  have hge : j = q.length := by simp at h; omega
  clear h
  subst hge
  rw [qa5]
  refine G [7] ?_
  refine zbd (zdO (cs := q.flatMap PQ.pv) 101 rfl) ?_
  skip
  refine G [3] ?_
  refine jdZ (zai 42 U26 sz60 zc60 (qaA rfl) (qaA rfl) rfl rfl rfl rfl (qaA rfl)) ?_
  refine zab (zaq 43 U26 eo60 (zaU) qy qk rfl rfl) rfl rfl ⟨rfl, rfl, rfl, trivial⟩ ?_
  refine jcV ?_
  refine ⟨m - 1, qk, _, zad (fun o => 43) _ _ ?_ ?_ rfl, i + 1, qk, rfl⟩
  ·exact ja5
  ·exact ⟨⟨by rw [← hpush]; rfl, rfl⟩, trivial⟩
 exact jaG
end Go.Proofs.YtlfjpippeeikdaaGreatDoor
namespace Go.Proofs.YtlfjpippeeikdaaGreatDoor
open Go.RowKit Go.Sort
set_option maxHeartbeats 16000000
set_option maxRecDepth 100000
theorem set_here {α : Type} {l : List α} {i : Nat} {x : α} (h : l[i]? = some x) : l.set i x = l := by
 exact jb0
theorem zii {st : St} (q : Nat) {ty : TypeId} {cs : List AV} (k o e size : Nat) (hq : st.heap q = .live (.box ty cs)) (hk : cs[k]? = some (qj)) (ho : st.heap o = .un) :
 Re st (st.upd [(q, .live (.box ty (cs.set k (.row o)))), (o, .live (.row e size 0 []))]) := by
 rintro w0 A nt a w ⟨⟨S, m, hm, hj, hr⟩, hsz, hd⟩
 have hmo := hm.un o ho
 have hqo : q ≠ o := fun e => by rw [e, ho] at hq; cases hq
 have g : Grow S m w S (fun x => if x = o then some (.slice none 0 0) else m x) w := ⟨fun _ h => h, fun _ _ => rfl, fun x v h => by
  by_cases hx : x = o
  ·subst hx; rw [hmo] at h; cases h
  ·simp only [if_neg hx]; exact h⟩
 refine ⟨⟨S, fun x => if x = o then some (.slice none 0 0) else m x, ?_, hj, fun t' => ?_⟩, hsz, hd⟩
 ·have key : ∀ x ob, (st.upd [(q, .live (.box ty (cs.set k (.row o)))), (o, .live (.row e size 0 []))]).heap x = .live ob → x ≠ o → ∃ ob', st.heap x = .live ob' := fun x ob hx e1 => by
   by_cases e2 : x = q
   ·subst e2; exact ⟨_, hq⟩
   ·exact ⟨ob, by simpa [St.upd, updL, nbeq e1, nbeq e2] using hx⟩
  refine ⟨hm.bel, hm.sA, hm.sW, fun x hx => ?_, fun x ob hx => ?_, fun x x' ob ob' v v' b hx hx' hv hv' hb hb' => ?_, hm.gl⟩
  ·by_cases e2 : x = q
   ·subst e2; simp [St.upd, updL] at hx
   by_cases e1 : x = o
   ·subst e1; simp [St.upd, updL, nbeq e2] at hx
   ·simp only [if_neg e1]
    refine hm.un x ?_
    simpa [St.upd, updL, nbeq e1, nbeq e2] using hx
  ·by_cases e2 : x = q
   ·subst e2
    have hob : ob = .box ty (cs.set k (.row o)) := by
     simp [St.upd, updL] at hx
     exact hx.symm
    subst hob
    obtain ⟨v, h1, ⟨b, us, q1, q2, q3, q4, q5⟩, h3⟩ := hm.live x _ hq
    refine ⟨v, by simp only [if_neg hqo]; exact h1, ⟨b, us, q1, q2, ?_, q4, q5⟩, h3⟩
    obtain ⟨u, hu1, hu2⟩ := q3.at_ hk
    simp only [Rep, PRep] at hu2
    have := (RepL.mono g _ _ q3).set k (c := .row o) (u := u) (by
     simp only [Rep]
     rw [hu2.1]
     exact ⟨qz, _, _, _, rfl⟩)
    rwa [set_here hu1] at this
   by_cases e1 : x = o
   ·subst e1
    simp [St.upd, updL, nbeq e2] at hx
    subst hx
    refine ⟨.slice none 0 0, qz, ⟨[], by simp [PRepL], qz, .inl ⟨rfl, rfl⟩⟩, fun b hb => by simp [blk] at hb⟩
   ·have hx' : st.heap x = .live ob := by simpa [St.upd, updL, nbeq e1, nbeq e2] using hx
    obtain ⟨v, h1, h2, h3⟩ := hm.live x ob hx'
    exact ⟨v, by simp only [if_neg e1]; exact h1, h2.mono g fun _ _ => rfl, h3⟩
  ·by_cases e1 : x = o
   ·subst e1; simp at hv; subst hv; simp [blk] at hb
   ·by_cases e2 : x' = o
    ·subst e2; simp at hv'; subst hv'; simp [blk] at hb'
    ·simp only [if_neg e1] at hv
     simp only [if_neg e2] at hv'
     obtain ⟨o1, k1⟩ := key x ob hx e1
     obtain ⟨o2, k2⟩ := key x' ob' hx' e2
     exact hm.inj x x' o1 o2 v v' b k1 k2 hv hv' hb hb'
 ·exact Rep.mono g _ _ (hr t')
def stA (key ep : ByteArray) (a b c : KY) (h : HS) (Q : AV) : List AV := [qc key, qc ep] ++ zcB a b c ++ h.cells ++ [Q]
theorem rcopy_s (l : List ST) (ok : ∀ s ∈ l, s.OK) (hn : l.length ≤ 1048576) : Fn Tryz.prog 23 [.p (.sl l.length 41 (l.flatMap ST.pv))] (.row 0) [(0, .row 60 41 l.length (l.flatMap ST.pv))] := by
 refine fnI fun w0 A => ?_
 refine G [16] ?_
 refine zaH (zbY 3 100 60 41 rfl rfl) ?_
 refine zae (fun m st => ∃ i : Nat, m + i = l.length ∧ st = St.of [(3, .row 100), (9, .p (.sl l.length 41 (l.flatMap ST.pv))), (10, qd l.length), (11, qd i)] [(100, .row 60 41 i ((l.take i).flatMap ST.pv))]) l.length ?_ ?_
 ·exact jaW
 rintro m st ⟨i, hi, rfl⟩
 refine G [5] ?_
 refine cX ?_ ?_ <;> intro h
 ·have hlt : i < l.length := by simp at h; omega
  clear h
  obtain ⟨s, hs⟩ : ∃ s, l[i]? = some s := ⟨l[i], List.getElem?_eq_getElem hlt⟩
  have hch := zaj (f := ST.pv) (k := 41) (fun _ => rfl) hs
  have hle := zak (f := ST.pv) (k := 41) (fun _ => rfl) hlt
  obtain ⟨_, _, _, _, hq, hqx⟩ := ok s (qaE hs)
  have hpush := st_push l i s hs
  have hil : ((l.take i).flatMap ST.pv).length = i * 41 := by rw [zas (k := 41) (fun _ => rfl), List.length_take, Nat.min_eq_left (by omega)]
  generalize hL : l.flatMap ST.pv = L at *
  generalize (l.take i).flatMap ST.pv = T at *
  obtain ⟨key, ep, a, b, c, hh, q⟩ := s
  dsimp only at hq hqx
  refine G [8] ?_
  refine jdu ?_
  refine G [3] ?_
  refine jdq ?_
  refine jdZ (zaJ 6 zr60 rfl) ?_
  refine jdu ?_
  refine G [4] ?_
  refine jdZ (zaS (es := stA key ep a b c hh (qj)) sz58 rfl rfl (qaA rfl) rfl) ?_
  refine zag (zaE (zaH (zii 6 40 101 93 3 rfl rfl rfl) ?_))
  refine G [9] ?_
  refine zae (fun m' st => ∃ j : Nat, m' + j = q.length ∧ st = St.of [(3, .row 100), (6, .ref 6 0), (9, .p (.sl l.length 41 L)), (10, qd l.length), (11, qd i), (18, .p (.sl q.length 3 (q.flatMap PQ.pv))), (19, qd q.length), (20, qd j)] [(6, .box 60 (stA key ep a b c hh (.row 101))), (100, .row 60 41 i T), (101, .row 93 3 j ((q.take j).flatMap PQ.pv))]) q.length ?_ ?_
  ·exact jbU
  rintro m' st ⟨j, hj, rfl⟩
  refine G [5] ?_
  refine cX ?_ ?_ <;> intro h
  ·have hlj : j < q.length := by simp at h; omega
   clear h
   obtain ⟨p, hp⟩ : ∃ p, q[j]? = some p := ⟨q[j], List.getElem?_eq_getElem hlj⟩
   have hch2 := zaj (f := PQ.pv) (k := 3) (fun _ => rfl) hp
   have hle2 := zak (f := PQ.pv) (k := 3) (fun _ => rfl) hlj
   have hxl := hqx p (qaE hp)
   have hpp := pq_push q j p hp
   have hjl : ((q.take j).flatMap PQ.pv).length = j * 3 := by rw [zas (k := 3) (fun _ => rfl), List.length_take, Nat.min_eq_left (by omega)]
   generalize hQ : q.flatMap PQ.pv = Q at *
   generalize (q.take j).flatMap PQ.pv = V at *
   obtain ⟨pa, pb, xs⟩ := p
   dsimp only at hpp hxl
   refine G [8] ?_
   refine jdZ (zac (Y := .agg [qe pa, qe pb, .p (.sl xs.length 1 (bs xs))]) sz93 rfl rfl (qaB rfl)) ?_
   refine G [10] ?_
   refine zab (aop_data (zd4 32 U91 eo5 (zdh) qy qk)) rfl rfl ⟨rfl, trivial⟩ ?_
   refine jdY (zcs pl93 zr93 rfl rfl) ?_
   refine zab (xs := [.agg [qe pa, qe pb, .p (.sl xs.length 1 (bs xs))]]) (zai (es := [qe pa, qe pb, .p (.sl xs.length 1 (bs xs))]) (cs := [qi pa, qi pb, .sl xs.length 1 (bs xs)]) 34 U58 sz93 zc93 (qaA rfl) (qaA rfl) rfl qm qm qm (qaA rfl)) qH rfl ⟨rfl, trivial⟩ ?_
   refine zab (zaq 35 U58 eo93 (zaU) qy qk (show _ = j + 1 by omega) hpp) rfl rfl ⟨rfl, rfl, rfl, trivial⟩ ?_
   refine fA fi60_4 rfl rfl ?_
   refine jdZ (zaS (es := stA key ep a b c hh (.row 35)) sz58 rfl rfl (qaA rfl) rfl) ?_
   refine jcQ ?_
   refine ⟨m' - 1, qk, _, zad (fun o => bif Nat.beq o 101 then 35 else o) _ _ ?_ ?_ rfl, j + 1, qk, rfl⟩
   ·exact ja5
   ·exact jaP
  have hge : j = q.length := by simp at h; omega
  clear h
  subst hge
  rw [qa5]
  refine zaG (zbA (zbA (zb0 (zaE (zaZ (zdO (cs := q.flatMap PQ.pv) 101 rfl) ?_)))))
  skip
  refine G [2] ?_
  refine jdq ?_
  refine zab (xs := [.agg (stC key ep a b c hh q.length (q.flatMap PQ.pv))]) (zai (es := (stC key ep a b c hh q.length (q.flatMap PQ.pv))) (cs := (ST.pv ⟨key, ep, a, b, c, hh, q⟩)) 40 U26 sz60 zc60 (qaA rfl) (qaA rfl) rfl qm qm qm (qaA rfl)) qH rfl ⟨rfl, trivial⟩ ?_
  refine zab (zaq 41 U26 eo60 (zaU) qy qk (show _ = i + 1 by omega) hpush) rfl rfl ⟨rfl, rfl, rfl, trivial⟩ ?_
  refine jcV ?_
  refine ⟨m - 1, qk, _, zad (fun o => 41) _ _ ?_ ?_ rfl, i + 1, qk, rfl⟩
  ·exact ja5
  ·exact ⟨⟨rfl, rfl⟩, trivial⟩
 exact jaG
end Go.Proofs.YtlfjpippeeikdaaGreatDoor
