/- conf.Right, the reference's PeerFault, the law ConfRights, over data. -/
import Derived.Test.YtlfjpippeeikdaaGreatDoorSHx
set_option linter.all false
namespace Go.Proofs.YtlfjpippeeikdaaGreatDoor
open Tryz
open Go.RowKit Go.Sort
set_option maxHeartbeats 16000000
set_option maxRecDepth 100000
def zgh : ByteArray := ⟨(Lib.repeatL [48] 64).toArray⟩
theorem zeros_ne : zgh ≠ ⟨#[]⟩ := by
 intro h
 have := congrArg ByteArray.size h
 revert this
 decide +kernel
theorem zie : Fn prog 100 [qc ⟨#[48]⟩, qd 64] (qc zgh) [] := by
 refine fn_below rfl fun w A us hA hus => ?_
 rw [repL_vs (vs := [.string ⟨#[48]⟩, .int .i64 64]) hus]
 exact (strings_Repeat ⟨#[48]⟩ 64 w qw (by decide +kernel)).mono fun e w' ⟨he, hb⟩ => ⟨he, hb⟩
theorem netOrd_turn (a n b m : Int) : 0 ≤ zbD a n b m ↔ zbD b m a n ≠ 1 := by
 unfold zbD ord3
 by_cases h : a = b
 ·subst h
  rw [if_pos rfl, if_pos rfl]
  split <;> split <;> (try split) <;> omega
 ·rw [if_neg h, if_neg (Ne.symm h)]
  split <;> split <;> (try split) <;> omega
abbrev NtP := Int × Int
def ntC (p : NtP) : List PV := [qi p.1, qh p.2]
def ntOK (p : NtP) : Prop := 0 ≤ p.1 ∧ p.1 < 4294967296
def ntG (l : List NtP) (i : Nat) : NtP := l.getD i (0, 0)
def zcx (l : List NtP) (i : Nat) : Int :=
 if zap (ntG l i).1 (ntG l i).2 ≠ 0 then zap (ntG l i).1 (ntG l i).2
 else if 0 < i ∧ 0 ≤ zbD (ntG l (i - 1)).1 (ntG l (i - 1)).2 (ntG l i).1 (ntG l i).2 then 6 else 0
def ntsE (l : List NtP) : Int := fnz (zcx l) l.length
structure PE where
 key : ByteArray
 sh : ByteArray
 ep : ByteArray
 al : Int
 nets : List NtP
def PE.cells (p : PE) : List AV := [qc p.key, qc p.sh, qc p.ep, qd p.al, .p (.sl p.nets.length 2 (p.nets.flatMap ntC))]
def PE.pv (p : PE) : List PV := [qg p.key, qg p.sh, qg p.ep, qh p.al, .sl p.nets.length 2 (p.nets.flatMap ntC)]
structure PE.OK (p : PE) : Prop where
 ep : p.ep.size < 4294967281
 len : p.nets.length ≤ 140737488351232
 nets : ∀ n ∈ p.nets, ntOK n
def peE (p : PE) : Int :=
 if keyE p.key ≠ 0 then keyE p.key else if p.sh ≠ ⟨#[]⟩ ∧ keyE p.sh ≠ 0 then keyE p.sh else if p.sh = zgh then 3
 else if p.ep ≠ ⟨#[]⟩ ∧ enE p.ep ≠ 0 then enE p.ep else if p.al < 0 ∨ 65535 < p.al then 4 else if 8 < p.nets.length then 1 else ntsE p.nets
theorem enR_e (s : ByteArray) : ∃ a b : Int, enR s = .tup [qe a, qd b, qd (enE s)] := by
 unfold enR enE
 split <;> exact ⟨_, _, rfl⟩
theorem right_s (p : PE) (ok : p.OK) : Fn prog 67 [.agg p.cells] (qd (peE p)) [] := by
 obtain ⟨key, sh, ep, al, nets⟩ := p
 obtain ⟨ok1, ok2, ok3⟩ := ok
 dsimp only at ok1 ok2 ok3
 obtain ⟨E, hE⟩ : ∃ E, peE ⟨key, sh, ep, al, nets⟩ = E := ⟨_, rfl⟩
 rw [hE]
 unfold peE at hE
 dsimp only at hE
 have hK := zbW key
 have hS := zbW sh
 have hZ := zie
 have hEn := end_s ep ok1
 obtain ⟨ea, eb, hen⟩ := enR_e ep
 rw [hen] at hEn
 clear hen
 show Fn prog _ [.agg [qc key, qc sh, qc ep, qd al, .p (.sl nets.length 2 (nets.flatMap ntC))]] _ _
 have hzn := zeros_ne
 have hNE : ntsE nets = fnz (zcx nets) nets.length := rfl
 generalize keyE key = k1 at *
 generalize keyE sh = k2 at *
 generalize enE ep = e1 at *
 generalize zgh = ZZ at *
 refine fnI fun w0 A => ?_
 refine G [10] ?_
 refine cV hK ?_
 refine jcS ?_
 refine cX ?_ ?_ <;> intro h
 ·exact jco
 have h1 : k1 = 0 := by simpa using h
 clear h
 rw [if_neg (by simp [h1])] at hE
 by_cases h2 : sh ≠ ⟨#[]⟩ ∧ k2 ≠ 0
 ·rw [if_pos h2] at hE
  subst hE
  refine jdh ?_
  refine cX ?_ ?_ <;> intro h
  ·refine G [5] ?_
   refine cV hS ?_
   refine jcS ?_
   refine cX ?_ ?_ <;> intro h
   ·refine jcV ?_
    exact yE
   ·exact absurd qG h2.2
  ·exact absurd qG h2.1
 rw [if_neg h2] at hE
 by_cases h3 : sh = ZZ
 ·rw [if_pos h3] at hE
  subst hE
  refine jdh ?_
  refine cX ?_ ?_ <;> intro h
  ·refine G [5] ?_
   refine cV hS ?_
   refine jcS ?_
   refine cX ?_ ?_ <;> intro h
   ·exact absurd ⟨by rw [h3]; exact hzn, by simpa using h⟩ h2
   ·refine G [5] ?_
    refine cK hZ ?_
    refine G [2, 9, 0] ?_
    refine cX ?_ ?_ <;> intro h
    ·refine jcQ ?_
     exact yE
    ·exact absurd h3 qG
  ·exact absurd qG (show ¬ sh = ⟨#[]⟩ by rw [h3]; exact hzn)
 rw [if_neg h3] at hE
 refine jdh ?_
 refine zde (St.of [(1, .ref 1 0)] [(1, .box 48 [qc key, qc sh, qc ep, qd al, .p (.sl nets.length 2 (nets.flatMap ntC))])]) ?_ ?_
 ·skip
  refine cX ?_ ?_ <;> intro h
  ·refine G [5] ?_
   refine cV hS ?_
   refine jcS ?_
   refine cX ?_ ?_ <;> intro h
   ·exact absurd ⟨by simp_all, by simpa using h⟩ h2
   ·refine G [5] ?_
    refine cK hZ ?_
    refine G [2, 9, 0] ?_
    refine cX ?_ ?_ <;> intro h
    ·exact absurd qG h3
    ·refine zay (zaE ?_)
     exact jau
  ·refine zay (zaE ?_)
   exact jau
 clear h2 h3 hzn
 by_cases h4 : ep ≠ ⟨#[]⟩ ∧ e1 ≠ 0
 ·rw [if_pos h4] at hE
  subst hE
  refine jcS ?_
  refine cX ?_ ?_ <;> intro h
  ·refine G [4] ?_
   refine cV hEn ?_
   refine G [13, 9, 0] ?_
   refine cX ?_ ?_ <;> intro h
   ·refine jcV ?_
    exact yE
   ·exact absurd qG h4.2
  ·exact absurd qG h4.1
 rw [if_neg h4] at hE
 refine jcS ?_
 refine zde (St.of [(1, .ref 1 0)] [(1, .box 48 [qc key, qc sh, qc ep, qd al, .p (.sl nets.length 2 (nets.flatMap ntC))])]) ?_ ?_
 ·skip
  refine cX ?_ ?_ <;> intro h
  ·refine G [4] ?_
   refine cV hEn ?_
   refine G [13, 9, 0] ?_
   refine cX ?_ ?_ <;> intro h
   ·exact absurd ⟨by simp_all, by simpa using h⟩ h4
   ·refine zay (zaE ?_)
    exact jau
  ·refine zay (zaE ?_)
   exact jau
 clear h4
 refine G [10, 2, 1, 9, 0] ?_
 refine cX ?_ ?_ <;> intro h
 ·have h5 : al < 0 ∨ 65535 < al := by simpa using h
  exact jb2
 have h5 : ¬ (al < 0 ∨ 65535 < al) := by simp at h; omega
 clear h
 rw [if_neg h5] at hE
 refine G [9, 9, 0] ?_
 refine cX ?_ ?_ <;> intro h
 ·exact jcz
 have h6 : ¬ 8 < nets.length := by simp at h; omega
 clear h
 rw [if_neg h6, hNE] at hE
 refine G [10] ?_
 refine zae (fun m st => ∃ i : Nat, m + i = nets.length ∧ (∀ j, j < i → zcx nets j = 0) ∧ st = St.of [(1, .ref 1 0), (56, .p (.sl nets.length 2 (nets.flatMap ntC))), (57, qd nets.length), (58, qd i)] [(1, .box 48 [qc key, qc sh, qc ep, qd al, .p (.sl nets.length 2 (nets.flatMap ntC))])]) nets.length ?_ ?_
 ·exact jaw
 rintro m st ⟨i, hi, hf, rfl⟩
 refine G [5] ?_
 refine cX ?_ ?_ <;> intro h
 ·have hlt : i < nets.length := by simp at h; omega
  clear h
  obtain ⟨q, hq⟩ : ∃ q, nets[i]? = some q := ⟨nets[i], List.getElem?_eq_getElem hlt⟩
  have hch := zaj (f := ntC) (k := 2) (fun _ => rfl) hq
  have hle := zak (f := ntC) (k := 2) (fun _ => rfl) hlt
  have hqk := ok3 q (qaE hq)
  have hC := zcK q.1 q.2 hqk.1 hqk.2
  have hhit := @zb8 (zcx nets) i nets.length hf hlt
  have hgq : ntG nets i = q := by unfold ntG; rw [List.getD_eq_getElem?_getD, hq]; rfl
  have hst : zcx nets i = if zap q.1 q.2 ≠ 0 then zap q.1 q.2 else if 0 < i ∧ 0 ≤ zbD (ntG nets (i - 1)).1 (ntG nets (i - 1)).2 q.1 q.2 then 6 else 0 := by unfold zcx; rw [hgq]
  obtain ⟨qa, qn⟩ := q
  dsimp only at hst hC
  change Fn prog _ [.agg [qe qa, qd qn]] _ _ at hC
  have hprev : ∀ j, i = j + 1 → (((nets.flatMap ntC).drop (j * 2)).take 2 = ntC (ntG nets j)) ∧ j * 2 + 2 ≤ (nets.flatMap ntC).length := by
   exact jbl
  generalize hL : nets.flatMap ntC = L at *
  generalize hFl : zap qa qn = fe at *
  refine G [7] ?_
  refine jdU ?_
  refine G [2] ?_
  refine jdZ (zac (Y := .agg [qe qa, qd qn]) sz82 rfl rfl (qaB rfl)) ?_
  refine G [5] ?_
  refine cV hC ?_
  refine jcS ?_
  refine cX ?_ ?_ <;> intro h
  ·have h7 : fe ≠ 0 := by simpa using h
   exact jaQ
  have h7 : fe = 0 := by simpa using h
  clear h
  rw [if_neg (by simp [h7])] at hst
  have hnext : ∀ st, zcx nets i = 0 → Re st (St.of [(1, .ref 1 0), (56, .p (.sl nets.length 2 L)), (57, qd nets.length), (58, qd ((i + 1 : Nat) : Int))] [(1, .box 48 [qc key, qc sh, qc ep, qd al, .p (.sl nets.length 2 L)])]) →
   ∃ n', n' < m ∧ ∃ st1, Re st st1 ∧ ∃ i : Nat, n' + i = nets.length ∧ (∀ j, j < i → zcx nets j = 0) ∧ st1 = St.of [(1, .ref 1 0), (56, .p (.sl nets.length 2 L)), (57, qd nets.length), (58, qd i)] [(1, .box 48 [qc key, qc sh, qc ep, qd al, .p (.sl nets.length 2 L)])] := fun st hz hre => by
   refine ⟨m - 1, qk, _, hre, i + 1, qk, fun j hj => ?_, rfl⟩
   by_cases e : j = i
   ·rw [e]; exact hz
   ·exact hf j qk
  have hcase : i = 0 ∨ ∃ j, i = j + 1 := by
   exact jbO
  rcases hcase with hi0 | ⟨j, hij⟩
  ·exact jbj
  ·obtain ⟨hpv, hple⟩ := hprev j hij
   rw [show i - 1 = j by omega] at hst
   generalize hpp : ntG nets j = pp at *
   obtain ⟨pa, pn⟩ := pp
   have hCm := nCmp_s pa pn qa qn
   dsimp only at hst
   change Fn prog _ [.agg [qe pa, qd pn], .agg [qe qa, qd qn]] _ _ at hCm
   generalize zbD pa pn qa qn = o at *
   refine G [4, 4, 5] ?_
   refine zaa (za1 U46 sz82 qk qk (show _ = L.drop (j * 2) by congr 2; omega)) rfl rfl ?_
   refine zaa (zam U82 rfl sz82 qL (hpv)) rfl rfl ?_
   refine lN U82 rfl sz82 rfl rfl ⟨rfl, trivial⟩ ?_
   (first | refine zb4 rfl ?_ | refine zaM (fun n => 78 + 1000 * n) (hCm) rfl rfl func102 rfl rfl qr rfl rfl rfl ql rfl rfl rfl ?_)
   refine jdc ?_
   refine cX ?_ ?_ <;> intro h
   ·have h8 : 0 ≤ o := by simpa using h
    exact jbC
   have h8 : ¬ 0 ≤ o := by simpa using h
   rw [if_neg (by intro ⟨_, h9⟩; exact h8 h9)] at hst
   refine jcQ ?_
   refine hnext _ hst (zad id _ _ ?_ ?_ rfl)
   ·exact ja5
   ·exact ⟨⟨rfl, rfl⟩, trivial⟩
 have hge : i = nets.length := by simp at h; omega
 clear h
 subst hge
 rw [zcD hf] at hE
 subst hE
 refine jcV ?_
 exact yE
theorem zhN : Fn prog 114 [] (qc zgh) [] := by
 have hZ := zie
 generalize zgh = Z at *
 refine fnI fun w0 A => ?_
 refine G [6] ?_
 refine cK hZ ?_
 refine jdc ?_
 exact yE
theorem refPeer_s (p : PE) (ok : p.OK) : Fn prog 83 [.agg p.cells] (qd (peE p)) [] := by
 obtain ⟨key, sh, ep, al, nets⟩ := p
 obtain ⟨ok1, ok2, ok3⟩ := ok
 dsimp only at ok1 ok2 ok3
 obtain ⟨E, hE⟩ : ∃ E, peE ⟨key, sh, ep, al, nets⟩ = E := ⟨_, rfl⟩
 rw [hE]
 unfold peE at hE
 dsimp only at hE
 have hK := zbJ key
 have hS := zbJ sh
 have hZ := zhN
 have hEn := zih ep ok1
 obtain ⟨ea, eb, hen⟩ := enR_e ep
 rw [hen] at hEn
 clear hen
 show Fn prog _ [.agg [qc key, qc sh, qc ep, qd al, .p (.sl nets.length 2 (nets.flatMap ntC))]] _ _
 have hzn := zeros_ne
 have hNE : ntsE nets = fnz (zcx nets) nets.length := rfl
 generalize keyE key = k1 at *
 generalize keyE sh = k2 at *
 generalize enE ep = e1 at *
 generalize zgh = ZZ at *
 refine fnI fun w0 A => ?_
 refine G [10] ?_
 refine cV hK ?_
 refine jcS ?_
 refine cX ?_ ?_ <;> intro h
 ·exact jco
 have h1 : k1 = 0 := by simpa using h
 clear h
 rw [if_neg (by simp [h1])] at hE
 refine G [10] ?_
 refine mb2 _ rfl rfl (fun _ => zbl func82 rfl rfl (hS) qr rfl) (fun _ => trivial) ?_
 refine G [1, 2, 1, 9, 0] ?_
 refine cX ?_ ?_ <;> intro h
 ·have h2 : sh ≠ ⟨#[]⟩ ∧ k2 ≠ 0 := by simpa using h
  rw [if_pos h2] at hE
  subst hE
  refine G [4] ?_
  refine cV hS ?_
  refine jdc ?_
  exact yE
 have h2 : ¬ (sh ≠ ⟨#[]⟩ ∧ k2 ≠ 0) := by
  intro ⟨h3, h4⟩
  simp [h3, h4] at h
 clear h
 rw [if_neg h2] at hE
 refine G [6] ?_
 refine cK hZ ?_
 refine G [2, 9, 0] ?_
 refine cX ?_ ?_ <;> intro h
 ·have h3 : sh = ZZ := by simpa using h
  rw [if_pos h3] at hE
  subst hE
  refine jcQ ?_
  exact yE
 have h3 : ¬ sh = ZZ := by simpa using h
 clear h
 rw [if_neg h3] at hE
 refine G [6] ?_
 refine cV hEn ?_
 refine G [16, 2, 1, 9, 0] ?_
 refine cX ?_ ?_ <;> intro h
 ·have h4 : ep ≠ ⟨#[]⟩ ∧ e1 ≠ 0 := by simpa using h
  rw [if_pos h4] at hE
  subst hE
  refine jcV ?_
  exact yE
 have h4 : ¬ (ep ≠ ⟨#[]⟩ ∧ e1 ≠ 0) := by
  intro ⟨h5, h6⟩
  simp [h5, h6] at h
 clear h
 rw [if_neg h4] at hE
 refine G [11, 2, 1, 9, 0] ?_
 refine cX ?_ ?_ <;> intro h
 ·have h5 : al < 0 ∨ 65535 < al := by simpa using h
  exact jb2
 have h5 : ¬ (al < 0 ∨ 65535 < al) := by simp at h; omega
 clear h
 rw [if_neg h5] at hE
 refine G [9, 9, 0] ?_
 refine cX ?_ ?_ <;> intro h
 ·exact jcz
 have h6 : ¬ 8 < nets.length := by simp at h; omega
 clear h
 rw [if_neg h6, hNE] at hE
 refine G [10] ?_
 refine zae (fun m st => ∃ i : Nat, m + i = nets.length ∧ (∀ j, j < i → zcx nets j = 0) ∧ st = St.of [(1, .ref 1 0), (60, .p (.sl nets.length 2 (nets.flatMap ntC))), (61, qd nets.length), (62, qd i)] [(1, .box 48 [qc key, qc sh, qc ep, qd al, .p (.sl nets.length 2 (nets.flatMap ntC))])]) nets.length ?_ ?_
 ·exact jaw
 rintro m st ⟨i, hi, hf, rfl⟩
 refine G [5] ?_
 refine cX ?_ ?_ <;> intro h
 ·have hlt : i < nets.length := by simp at h; omega
  clear h
  obtain ⟨q, hq⟩ : ∃ q, nets[i]? = some q := ⟨nets[i], List.getElem?_eq_getElem hlt⟩
  have hch := zaj (f := ntC) (k := 2) (fun _ => rfl) hq
  have hle := zak (f := ntC) (k := 2) (fun _ => rfl) hlt
  have hqk := ok3 q (qaE hq)
  have hC := zdD q.1 q.2 hqk.1 hqk.2
  have hhit := @zb8 (zcx nets) i nets.length hf hlt
  have hgq : ntG nets i = q := by unfold ntG; rw [List.getD_eq_getElem?_getD, hq]; rfl
  have hst : zcx nets i = if zap q.1 q.2 ≠ 0 then zap q.1 q.2 else if 0 < i ∧ 0 ≤ zbD (ntG nets (i - 1)).1 (ntG nets (i - 1)).2 q.1 q.2 then 6 else 0 := by unfold zcx; rw [hgq]
  obtain ⟨qa, qn⟩ := q
  dsimp only at hst hC
  change Fn prog _ [.agg [qe qa, qd qn]] _ _ at hC
  have hprev : ∀ j, i = j + 1 → (((nets.flatMap ntC).drop (j * 2)).take 2 = ntC (ntG nets j)) ∧ j * 2 + 2 ≤ (nets.flatMap ntC).length := by
   exact jbl
  generalize hL : nets.flatMap ntC = L at *
  generalize hFl : zap qa qn = fe at *
  refine G [7] ?_
  refine jdU ?_
  refine G [2] ?_
  refine jdZ (zac (Y := .agg [qe qa, qd qn]) sz82 rfl rfl (qaB rfl)) ?_
  refine G [5] ?_
  refine cV hC ?_
  refine jcS ?_
  refine cX ?_ ?_ <;> intro h
  ·have h7 : fe ≠ 0 := by simpa using h
   exact jaQ
  have h7 : fe = 0 := by simpa using h
  clear h
  rw [if_neg (by simp [h7])] at hst
  have hnext : ∀ st, zcx nets i = 0 → Re st (St.of [(1, .ref 1 0), (60, .p (.sl nets.length 2 L)), (61, qd nets.length), (62, qd ((i + 1 : Nat) : Int))] [(1, .box 48 [qc key, qc sh, qc ep, qd al, .p (.sl nets.length 2 L)])]) →
   ∃ n', n' < m ∧ ∃ st1, Re st st1 ∧ ∃ i : Nat, n' + i = nets.length ∧ (∀ j, j < i → zcx nets j = 0) ∧ st1 = St.of [(1, .ref 1 0), (60, .p (.sl nets.length 2 L)), (61, qd nets.length), (62, qd i)] [(1, .box 48 [qc key, qc sh, qc ep, qd al, .p (.sl nets.length 2 L)])] := fun st hz hre => by
   refine ⟨m - 1, qk, _, hre, i + 1, qk, fun j hj => ?_, rfl⟩
   by_cases e : j = i
   ·rw [e]; exact hz
   ·exact hf j qk
  have hcase : i = 0 ∨ ∃ j, i = j + 1 := by
   exact jbO
  rcases hcase with hi0 | ⟨j, hij⟩
  ·exact jbj
  ·obtain ⟨hpv, hple⟩ := hprev j hij
   rw [show i - 1 = j by omega] at hst
   generalize hpp : ntG nets j = pp at *
   obtain ⟨pa, pn⟩ := pp
   have hCm := nOrd_s qa qn pa pn
   have htn := netOrd_turn pa pn qa qn
   dsimp only at hst
   change Fn prog _ [.agg [qe qa, qd qn], .agg [qe pa, qd pn]] _ _ at hCm
   generalize zbD pa pn qa qn = o at *
   generalize zbD qa qn pa pn = o' at *
   refine G [4, 4, 6] ?_
   refine zaa (za1 U46 sz82 qk qk (show _ = L.drop (j * 2) by congr 2; omega)) rfl rfl ?_
   refine zaa (zam U82 rfl sz82 qL (hpv)) rfl rfl ?_
   (first | refine zb4 rfl ?_ | refine zaM (fun n => 82 + 1000 * n) (hCm) rfl rfl func117 rfl rfl qr rfl rfl rfl ql rfl rfl rfl ?_)
   refine jdc ?_
   refine cX ?_ ?_ <;> intro h
   ·have h8 : 0 ≤ o := htn.2 qG
    exact jbC
   have h8 : ¬ 0 ≤ o := fun h9 => htn.1 h9 qG
   rw [if_neg (by intro ⟨_, h9⟩; exact h8 h9)] at hst
   refine jcQ ?_
   refine hnext _ hst (zad id _ _ ?_ ?_ rfl)
   ·exact ja5
   ·exact ⟨⟨rfl, rfl⟩, trivial⟩
 have hge : i = nets.length := by simp at h; omega
 exact jce
theorem PE.of_ty {n : Nat} {ps : List PV} (h : Ty prog (n + 5) 48 ps) (hb : PV.bdL 1048576 ps) : ∃ p : PE, p.OK ∧ ps = p.pv := by
 obtain ⟨_, rfl, x0, _, rfl, t0, x1, _, rfl, t1, x2, _, rfl, t2, x3, _, rfl, t3, x4, _, rfl, t4, rfl⟩ := zbi (ts := [9, 9, 9, 3, 46]) qm h
 obtain ⟨a0, rfl, _⟩ := zbF U9 t0
 obtain ⟨a1, rfl, _⟩ := zbF U9 t1
 obtain ⟨a2, rfl, _⟩ := zbF U9 t2
 obtain ⟨a3, rfl, w3⟩ := zbz U3 t3
 obtain ⟨l, rfl, hl, hok⟩ := ty_recs (f := ntC) (Q := ntOK) (sz := 2) U46 qm t4 fun x hx => by
  obtain ⟨_, rfl, y0, _, rfl, u0, y1, _, rfl, u1, rfl⟩ := zbi (ts := [80, 3]) qm hx
  obtain ⟨a, rfl, ha⟩ := zbz U80 u0
  obtain ⟨b, rfl, hb⟩ := zbz U3 u1
  obtain ⟨q0, q1⟩ := wf_u32 ha
  exact ⟨(a, b), ⟨q0, q1⟩, rfl⟩
 simp only [qbn, List.flatten_nil, qaV, qbN, qa2, qbc, PV.bdL, PV.bd, and_true] at hb
 refine ⟨⟨a0, a1, a2, a3, l⟩, ⟨?_, ?_, hok⟩, rfl⟩
 ·show a2.size < _
  omega
 ·show l.length ≤ _
  omega
end Go.Proofs.YtlfjpippeeikdaaGreatDoor
