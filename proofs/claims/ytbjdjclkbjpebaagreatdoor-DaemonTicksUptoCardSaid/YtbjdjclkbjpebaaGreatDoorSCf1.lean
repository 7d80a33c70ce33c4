/- conf.Right, the reference's PeerFault, the law ConfRights, over data. -/
import Derived.Test.YtbjdjclkbjpebaaGreatDoorSNt1
import Derived.Test.YtbjdjclkbjpebaaGreatDoorSNetZ
import Derived.Test.YtbjdjclkbjpebaaGreatDoorSUtZ
import Derived.Test.YtbjdjclkbjpebaaGreatDoorSHx
namespace Go.Proofs.YtbjdjclkbjpebaaGreatDoor
open Tryz
open Go.RowKit Go.Sort
set_option maxHeartbeats 16000000
set_option linter.unusedVariables false
set_option linter.unusedSimpArgs false
set_option maxRecDepth 100000
def zfS : ByteArray := ⟨(Lib.repeatL [48] 64).toArray⟩
theorem zeros_ne : zfS ≠ ⟨#[]⟩ := by
 intro h
 have := congrArg ByteArray.size h
 revert this
 decide +kernel
theorem zh8 : Fn prog 89 [.p (.v (.string ⟨#[48]⟩)), .p (.v (.int .i64 64))] (.p (.v (.string zfS))) [] := by
 refine fn_below rfl fun w A us hA hus => ?_
 rw [repL_vs (vs := [.string ⟨#[48]⟩, .int .i64 64]) hus]
 exact (strings_Repeat ⟨#[48]⟩ 64 w (by decide) (by decide +kernel)).mono fun e w' ⟨he, hb⟩ => ⟨he, hb⟩
theorem nCmp_s (a n b m : Int) : Fn prog 92 [.agg (netA a n), .agg (netA b m)] (.p (.v (.int .i64 (zcM a n b m)))) [] :=
 zcS rfl (fun _ _ _ => zaV rfl) (compare_g a n b m)
theorem nOrd_s (a n b m : Int) : Fn prog 113 [.agg (netA a n), .agg (netA b m)] (.p (.v (.int .i64 (zcM a n b m)))) [] :=
 zcS rfl (fun _ _ _ => zaV rfl) (order_g a n b m)
theorem netOrd_turn (a n b m : Int) : 0 ≤ zcM a n b m ↔ zcM b m a n ≠ 1 := by
 unfold zcM ord3
 by_cases h : a = b
 ·subst h
  rw [if_pos rfl, if_pos rfl]
  split <;> split <;> (try split) <;> omega
 ·rw [if_neg h, if_neg (Ne.symm h)]
  split <;> split <;> (try split) <;> omega
abbrev NtP := Int × Int
def ntC (p : NtP) : List PV := [.v (.int .u32 p.1), .v (.int .i64 p.2)]
def ntOK (p : NtP) : Prop := 0 ≤ p.1 ∧ p.1 < 4294967296
def ntG (l : List NtP) (i : Nat) : NtP := l.getD i (0, 0)
def zcL (l : List NtP) (i : Nat) : Int :=
 if zai (ntG l i).1 (ntG l i).2 ≠ 0 then zai (ntG l i).1 (ntG l i).2
 else if 0 < i ∧ 0 ≤ zcM (ntG l (i - 1)).1 (ntG l (i - 1)).2 (ntG l i).1 (ntG l i).2 then 6 else 0
def ntsE (l : List NtP) : Int := fnz (zcL l) l.length
structure PE where
 key : ByteArray
 sh : ByteArray
 ep : ByteArray
 al : Int
 nets : List NtP
def PE.cells (p : PE) : List AV := [.p (.v (.string p.key)), .p (.v (.string p.sh)), .p (.v (.string p.ep)), .p (.v (.int .i64 p.al)), .p (.sl p.nets.length 2 (p.nets.flatMap ntC))]
def PE.pv (p : PE) : List PV := [.v (.string p.key), .v (.string p.sh), .v (.string p.ep), .v (.int .i64 p.al), .sl p.nets.length 2 (p.nets.flatMap ntC)]
structure PE.OK (p : PE) : Prop where
 ep : p.ep.size < 4294967281
 len : p.nets.length ≤ 140737488351232
 nets : ∀ n ∈ p.nets, ntOK n
def peE (p : PE) : Int :=
 if keyE p.key ≠ 0 then keyE p.key else if p.sh ≠ ⟨#[]⟩ ∧ keyE p.sh ≠ 0 then keyE p.sh else if p.sh = zfS then 3
 else if p.ep ≠ ⟨#[]⟩ ∧ enE p.ep ≠ 0 then enE p.ep else if p.al < 0 ∨ 65535 < p.al then 4 else if 8 < p.nets.length then 1 else ntsE p.nets
theorem enR_e (s : ByteArray) : ∃ a b : Int, enR s = .tup [.p (.v (.int .u32 a)), .p (.v (.int .i64 b)), .p (.v (.int .i64 (enE s)))] := by
 unfold enR enE
 split <;> exact ⟨_, _, rfl⟩
theorem right_s (p : PE) (ok : p.OK) : Fn prog 56 [.agg p.cells] (.p (.v (.int .i64 (peE p)))) [] := by
 obtain ⟨key, sh, ep, al, nets⟩ := p
 obtain ⟨ok1, ok2, ok3⟩ := ok
 dsimp only at ok1 ok2 ok3
 obtain ⟨E, hE⟩ : ∃ E, peE ⟨key, sh, ep, al, nets⟩ = E := ⟨_, rfl⟩
 rw [hE]
 unfold peE at hE
 dsimp only at hE
 have hK := zbf key
 have hS := zbf sh
 have hZ := zh8
 have hEn := end_s ep ok1
 obtain ⟨ea, eb, hen⟩ := enR_e ep
 rw [hen] at hEn
 clear hen
 show Fn prog _ [.agg [.p (.v (.string key)), .p (.v (.string sh)), .p (.v (.string ep)), .p (.v (.int .i64 al)), .p (.sl nets.length 2 (nets.flatMap ntC))]] _ _
 have hzn := zeros_ne
 have hNE : ntsE nets = fnz (zcL nets) nets.length := rfl
 generalize keyE key = k1 at *
 generalize keyE sh = k2 at *
 generalize enE ep = e1 at *
 generalize zfS = ZZ at *
 refine fnI fun w0 A => ?_
 refine G [10] ?_
 refine cV hK ?_
 refine jcq ?_
 refine cX (fun h => ?_) fun h => ?_
 ·exact jb9
 have h1 : k1 = 0 := by simpa using h
 clear h
 rw [if_neg (by simp [h1])] at hE
 by_cases h2 : sh ≠ ⟨#[]⟩ ∧ k2 ≠ 0
 ·rw [if_pos h2] at hE
  subst hE
  refine jcM ?_
  refine cX (fun h => ?_) fun h => ?_
  ·refine G [5] ?_
   refine cV hS ?_
   refine jcq ?_
   refine cX (fun h => ?_) fun h => ?_
   ·refine jcs ?_
    exact yE
   ·exact absurd (by simpa using h) h2.2
  ·exact absurd (by simpa using h) h2.1
 rw [if_neg h2] at hE
 by_cases h3 : sh = ZZ
 ·rw [if_pos h3] at hE
  subst hE
  refine jcM ?_
  refine cX (fun h => ?_) fun h => ?_
  ·refine G [5] ?_
   refine cV hS ?_
   refine jcq ?_
   refine cX (fun h => ?_) fun h => ?_
   ·exact absurd ⟨by rw [h3]; exact hzn, by simpa using h⟩ h2
   ·refine G [5] ?_
    refine cK hZ ?_
    refine G [2, 9, 0] ?_
    refine cX (fun h => ?_) fun h => ?_
    ·refine jct ?_
     exact yE
    ·exact absurd h3 (by simpa using h)
  ·exact absurd (by simpa using h) (show ¬ sh = ⟨#[]⟩ by rw [h3]; exact hzn)
 rw [if_neg h3] at hE
 refine jcM ?_
 refine zcH (St.of [(1, .ref 1 0)] [(1, .box 84 [.p (.v (.string key)), .p (.v (.string sh)), .p (.v (.string ep)), .p (.v (.int .i64 al)), .p (.sl nets.length 2 (nets.flatMap ntC))])]) ?_ ?_
 ·skip
  refine cX (fun h => ?_) fun h => ?_
  ·refine G [5] ?_
   refine cV hS ?_
   refine jcq ?_
   refine cX (fun h => ?_) fun h => ?_
   ·exact absurd ⟨by simp_all, by simpa using h⟩ h2
   ·refine G [5] ?_
    refine cK hZ ?_
    refine G [2, 9, 0] ?_
    refine cX (fun h => ?_) fun h => ?_
    ·exact absurd (by simpa using h) h3
    ·refine zap (zaz ?_)
     exact jaq
  ·refine zap (zaz ?_)
   exact jaq
 clear h2 h3 hzn
 by_cases h4 : ep ≠ ⟨#[]⟩ ∧ e1 ≠ 0
 ·rw [if_pos h4] at hE
  subst hE
  refine jcq ?_
  refine cX (fun h => ?_) fun h => ?_
  ·refine G [4] ?_
   refine cV hEn ?_
   refine G [13, 9, 0] ?_
   refine cX (fun h => ?_) fun h => ?_
   ·refine jcs ?_
    exact yE
   ·exact absurd (by simpa using h) h4.2
  ·exact absurd (by simpa using h) h4.1
 rw [if_neg h4] at hE
 refine jcq ?_
 refine zcH (St.of [(1, .ref 1 0)] [(1, .box 84 [.p (.v (.string key)), .p (.v (.string sh)), .p (.v (.string ep)), .p (.v (.int .i64 al)), .p (.sl nets.length 2 (nets.flatMap ntC))])]) ?_ ?_
 ·skip
  refine cX (fun h => ?_) fun h => ?_
  ·refine G [4] ?_
   refine cV hEn ?_
   refine G [13, 9, 0] ?_
   refine cX (fun h => ?_) fun h => ?_
   ·exact absurd ⟨by simp_all, by simpa using h⟩ h4
   ·refine zap (zaz ?_)
    exact jaq
  ·refine zap (zaz ?_)
   exact jaq
 clear h4
 refine G [10, 2, 1, 9, 0] ?_
 refine cX (fun h => ?_) fun h => ?_
 ·have h5 : al < 0 ∨ 65535 < al := by simpa using h
  exact jbS
 have h5 : ¬ (al < 0 ∨ 65535 < al) := by simp at h; omega
 clear h
 rw [if_neg h5] at hE
 refine G [9, 9, 0] ?_
 refine cX (fun h => ?_) fun h => ?_
 ·exact jcf
 have h6 : ¬ 8 < nets.length := by simp at h; omega
 clear h
 rw [if_neg h6, hNE] at hE
 refine G [10] ?_
 refine zag (fun m st => ∃ i : Nat, m + i = nets.length ∧ (∀ j, j < i → zcL nets j = 0) ∧ st = St.of [(1, .ref 1 0), (56, .p (.sl nets.length 2 (nets.flatMap ntC))), (57, .p (.v (.int .i64 nets.length))), (58, .p (.v (.int .i64 i)))] [(1, .box 84 [.p (.v (.string key)), .p (.v (.string sh)), .p (.v (.string ep)), .p (.v (.int .i64 al)), .p (.sl nets.length 2 (nets.flatMap ntC))])]) nets.length ?_ ?_
 ·exact jar
 rintro m st ⟨i, hi, hf, rfl⟩
 refine G [5] ?_
 refine cX (fun h => ?_) fun h => ?_
 ·have hlt : i < nets.length := by simp at h; omega
  clear h
  obtain ⟨q, hq⟩ : ∃ q, nets[i]? = some q := ⟨nets[i], List.getElem?_eq_getElem hlt⟩
  have hch := zar (f := ntC) (k := 2) (fun _ => rfl) hq
  have hle := zas (f := ntC) (k := 2) (fun _ => rfl) hlt
  have hqk := ok3 q (List.mem_of_getElem? hq)
  have hC := zfp q.1 q.2 hqk.1 hqk.2
  have hhit := @zcd (zcL nets) i nets.length hf hlt
  have hgq : ntG nets i = q := by unfold ntG; rw [List.getD_eq_getElem?_getD, hq]; rfl
  have hst : zcL nets i = if zai q.1 q.2 ≠ 0 then zai q.1 q.2 else if 0 < i ∧ 0 ≤ zcM (ntG nets (i - 1)).1 (ntG nets (i - 1)).2 q.1 q.2 then 6 else 0 := by unfold zcL; rw [hgq]
  obtain ⟨qa, qn⟩ := q
  dsimp only at hst hC
  change Fn prog _ [.agg [.p (.v (.int .u32 qa)), .p (.v (.int .i64 qn))]] _ _ at hC
  have hprev : ∀ j, i = j + 1 → (((nets.flatMap ntC).drop (j * 2)).take 2 = ntC (ntG nets j)) ∧ j * 2 + 2 ≤ (nets.flatMap ntC).length := by
   exact ja3
  generalize hL : nets.flatMap ntC = L at *
  generalize hFl : zai qa qn = fe at *
  refine G [7] ?_
  refine zaa (zaI U88 rfl sz88 (by rw [List.length_drop]; omega) (hch)) rfl rfl ?_
  refine G [2] ?_
  refine jdA (zaf (Y := .agg [.p (.v (.int .u32 qa)), .p (.v (.int .i64 qn))]) sz88 rfl rfl (Nat.eq_of_beq_eq_true rfl)) ?_
  refine G [5] ?_
  refine cV hC ?_
  refine jcq ?_
  refine cX (fun h => ?_) fun h => ?_
  ·have h7 : fe ≠ 0 := by simpa using h
   exact jaJ
  have h7 : fe = 0 := by simpa using h
  clear h
  rw [if_neg (by simp [h7])] at hst
  have hnext : ∀ st, zcL nets i = 0 → Re st (St.of [(1, .ref 1 0), (56, .p (.sl nets.length 2 L)), (57, .p (.v (.int .i64 nets.length))), (58, .p (.v (.int .i64 ((i + 1 : Nat) : Int))))] [(1, .box 84 [.p (.v (.string key)), .p (.v (.string sh)), .p (.v (.string ep)), .p (.v (.int .i64 al)), .p (.sl nets.length 2 L)])]) →
    ∃ n', n' < m ∧ ∃ st1, Re st st1 ∧ ∃ i : Nat, n' + i = nets.length ∧ (∀ j, j < i → zcL nets j = 0) ∧ st1 = St.of [(1, .ref 1 0), (56, .p (.sl nets.length 2 L)), (57, .p (.v (.int .i64 nets.length))), (58, .p (.v (.int .i64 i)))] [(1, .box 84 [.p (.v (.string key)), .p (.v (.string sh)), .p (.v (.string ep)), .p (.v (.int .i64 al)), .p (.sl nets.length 2 L)])] := fun st hz hre => by
   refine ⟨m - 1, by omega, _, hre, i + 1, by omega, fun j hj => ?_, rfl⟩
   by_cases e : j = i
   ·rw [e]; exact hz
   ·exact hf j (by omega)
  have hcase : i = 0 ∨ ∃ j, i = j + 1 := by
   exact jbz
  rcases hcase with hi0 | ⟨j, hij⟩
  ·exact ja2
  ·obtain ⟨hpv, hple⟩ := hprev j hij
   rw [show i - 1 = j by omega] at hst
   generalize hpp : ntG nets j = pp at *
   obtain ⟨pa, pn⟩ := pp
   have hCm := nCmp_s pa pn qa qn
   dsimp only at hst
   change Fn prog _ [.agg [.p (.v (.int .u32 pa)), .p (.v (.int .i64 pn))], .agg [.p (.v (.int .u32 qa)), .p (.v (.int .i64 qn))]] _ _ at hCm
   generalize zcM pa pn qa qn = o at *
   refine G [4, 4, 5] ?_
   refine zaa (zaM U82 sz88 (by omega) (by omega) (show _ = L.drop (j * 2) by congr 2; omega)) rfl rfl ?_
   refine zaa (zaI U88 rfl sz88 (by rw [List.length_drop]; omega) (hpv)) rfl rfl ?_
   refine lN U88 rfl sz88 rfl rfl ⟨rfl, trivial⟩ ?_
   (first | refine zcb rfl ?_ | refine zbO (fun n => 78 + 1000 * n) (hCm) rfl rfl func92 rfl rfl (by first | rfl | simp [AV.okInL, AV.okIn, zay]) rfl rfl rfl (by first | exact trivial | exact ⟨rfl, trivial⟩ | exact ⟨rfl, rfl, trivial⟩ | exact ⟨rfl, rfl, rfl, rfl, rfl, trivial⟩) rfl rfl rfl ?_)
   refine jcJ ?_
   refine cX (fun h => ?_) fun h => ?_
   ·have h8 : 0 ≤ o := by simpa using h
    exact jbe
   have h8 : ¬ 0 ≤ o := by simpa using h
   rw [if_neg (by intro ⟨_, h9⟩; exact h8 h9)] at hst
   refine jct ?_
   refine hnext _ hst (zah id _ _ ?_ ?_ rfl)
   ·exact jak
   ·exact ⟨⟨rfl, rfl⟩, trivial⟩
 have hge : i = nets.length := by simp at h; omega
 clear h
 subst hge
 rw [zcN hf] at hE
 subst hE
 refine jcs ?_
 exact yE
theorem zhF : Fn prog 110 [] (.p (.v (.string zfS))) [] := by
 have hZ := zh8
 generalize zfS = Z at *
 refine fnI fun w0 A => ?_
 refine G [6] ?_
 refine cK hZ ?_
 refine jcJ ?_
 exact yE
theorem refPeer_s (p : PE) (ok : p.OK) : Fn prog 75 [.agg p.cells] (.p (.v (.int .i64 (peE p)))) [] := by
 obtain ⟨key, sh, ep, al, nets⟩ := p
 obtain ⟨ok1, ok2, ok3⟩ := ok
 dsimp only at ok1 ok2 ok3
 obtain ⟨E, hE⟩ : ∃ E, peE ⟨key, sh, ep, al, nets⟩ = E := ⟨_, rfl⟩
 rw [hE]
 unfold peE at hE
 dsimp only at hE
 have hK := za9 key
 have hS := za9 sh
 have hZ := zhF
 have hEn := zia ep ok1
 obtain ⟨ea, eb, hen⟩ := enR_e ep
 rw [hen] at hEn
 clear hen
 show Fn prog _ [.agg [.p (.v (.string key)), .p (.v (.string sh)), .p (.v (.string ep)), .p (.v (.int .i64 al)), .p (.sl nets.length 2 (nets.flatMap ntC))]] _ _
 have hzn := zeros_ne
 have hNE : ntsE nets = fnz (zcL nets) nets.length := rfl
 generalize keyE key = k1 at *
 generalize keyE sh = k2 at *
 generalize enE ep = e1 at *
 generalize zfS = ZZ at *
 refine fnI fun w0 A => ?_
 refine G [10] ?_
 refine cV hK ?_
 refine jcq ?_
 refine cX (fun h => ?_) fun h => ?_
 ·exact jb9
 have h1 : k1 = 0 := by simpa using h
 clear h
 rw [if_neg (by simp [h1])] at hE
 refine G [10] ?_
 refine mb2 _ rfl rfl (fun _ => zbc F74 rfl rfl (hS) (by first | rfl | simp [AV.okInL, AV.okIn, zay]) rfl) (fun _ => trivial) ?_
 refine G [1, 2, 1, 9, 0] ?_
 refine cX (fun h => ?_) fun h => ?_
 ·have h2 : sh ≠ ⟨#[]⟩ ∧ k2 ≠ 0 := by simpa using h
  rw [if_pos h2] at hE
  subst hE
  refine G [4] ?_
  refine cV hS ?_
  refine jcJ ?_
  exact yE
 have h2 : ¬ (sh ≠ ⟨#[]⟩ ∧ k2 ≠ 0) := by
  intro ⟨h3, h4⟩
  simp [h3, h4] at h
 clear h
 rw [if_neg h2] at hE
 refine G [6] ?_
 refine cK hZ ?_
 refine G [2, 9, 0] ?_
 refine cX (fun h => ?_) fun h => ?_
 ·have h3 : sh = ZZ := by simpa using h
  rw [if_pos h3] at hE
  subst hE
  refine jct ?_
  exact yE
 have h3 : ¬ sh = ZZ := by simpa using h
 clear h
 rw [if_neg h3] at hE
 refine G [6] ?_
 refine cV hEn ?_
 refine G [16, 2, 1, 9, 0] ?_
 refine cX (fun h => ?_) fun h => ?_
 ·have h4 : ep ≠ ⟨#[]⟩ ∧ e1 ≠ 0 := by simpa using h
  rw [if_pos h4] at hE
  subst hE
  refine jcs ?_
  exact yE
 have h4 : ¬ (ep ≠ ⟨#[]⟩ ∧ e1 ≠ 0) := by
  intro ⟨h5, h6⟩
  simp [h5, h6] at h
 clear h
 rw [if_neg h4] at hE
 refine G [11, 2, 1, 9, 0] ?_
 refine cX (fun h => ?_) fun h => ?_
 ·have h5 : al < 0 ∨ 65535 < al := by simpa using h
  exact jbS
 have h5 : ¬ (al < 0 ∨ 65535 < al) := by simp at h; omega
 clear h
 rw [if_neg h5] at hE
 refine G [9, 9, 0] ?_
 refine cX (fun h => ?_) fun h => ?_
 ·exact jcf
 have h6 : ¬ 8 < nets.length := by simp at h; omega
 clear h
 rw [if_neg h6, hNE] at hE
 refine G [10] ?_
 refine zag (fun m st => ∃ i : Nat, m + i = nets.length ∧ (∀ j, j < i → zcL nets j = 0) ∧ st = St.of [(1, .ref 1 0), (60, .p (.sl nets.length 2 (nets.flatMap ntC))), (61, .p (.v (.int .i64 nets.length))), (62, .p (.v (.int .i64 i)))] [(1, .box 84 [.p (.v (.string key)), .p (.v (.string sh)), .p (.v (.string ep)), .p (.v (.int .i64 al)), .p (.sl nets.length 2 (nets.flatMap ntC))])]) nets.length ?_ ?_
 ·exact jar
 rintro m st ⟨i, hi, hf, rfl⟩
 refine G [5] ?_
 refine cX (fun h => ?_) fun h => ?_
 ·have hlt : i < nets.length := by simp at h; omega
  clear h
  obtain ⟨q, hq⟩ : ∃ q, nets[i]? = some q := ⟨nets[i], List.getElem?_eq_getElem hlt⟩
  have hch := zar (f := ntC) (k := 2) (fun _ => rfl) hq
  have hle := zas (f := ntC) (k := 2) (fun _ => rfl) hlt
  have hqk := ok3 q (List.mem_of_getElem? hq)
  have hC := nrFault_s q.1 q.2 hqk.1 hqk.2
  have hhit := @zcd (zcL nets) i nets.length hf hlt
  have hgq : ntG nets i = q := by unfold ntG; rw [List.getD_eq_getElem?_getD, hq]; rfl
  have hst : zcL nets i = if zai q.1 q.2 ≠ 0 then zai q.1 q.2 else if 0 < i ∧ 0 ≤ zcM (ntG nets (i - 1)).1 (ntG nets (i - 1)).2 q.1 q.2 then 6 else 0 := by unfold zcL; rw [hgq]
  obtain ⟨qa, qn⟩ := q
  dsimp only at hst hC
  change Fn prog _ [.agg [.p (.v (.int .u32 qa)), .p (.v (.int .i64 qn))]] _ _ at hC
  have hprev : ∀ j, i = j + 1 → (((nets.flatMap ntC).drop (j * 2)).take 2 = ntC (ntG nets j)) ∧ j * 2 + 2 ≤ (nets.flatMap ntC).length := by
   exact ja3
  generalize hL : nets.flatMap ntC = L at *
  generalize hFl : zai qa qn = fe at *
  refine G [7] ?_
  refine zaa (zaI U88 rfl sz88 (by rw [List.length_drop]; omega) (hch)) rfl rfl ?_
  refine G [2] ?_
  refine jdA (zaf (Y := .agg [.p (.v (.int .u32 qa)), .p (.v (.int .i64 qn))]) sz88 rfl rfl (Nat.eq_of_beq_eq_true rfl)) ?_
  refine G [5] ?_
  refine cV hC ?_
  refine jcq ?_
  refine cX (fun h => ?_) fun h => ?_
  ·have h7 : fe ≠ 0 := by simpa using h
   exact jaJ
  have h7 : fe = 0 := by simpa using h
  clear h
  rw [if_neg (by simp [h7])] at hst
  have hnext : ∀ st, zcL nets i = 0 → Re st (St.of [(1, .ref 1 0), (60, .p (.sl nets.length 2 L)), (61, .p (.v (.int .i64 nets.length))), (62, .p (.v (.int .i64 ((i + 1 : Nat) : Int))))] [(1, .box 84 [.p (.v (.string key)), .p (.v (.string sh)), .p (.v (.string ep)), .p (.v (.int .i64 al)), .p (.sl nets.length 2 L)])]) →
    ∃ n', n' < m ∧ ∃ st1, Re st st1 ∧ ∃ i : Nat, n' + i = nets.length ∧ (∀ j, j < i → zcL nets j = 0) ∧ st1 = St.of [(1, .ref 1 0), (60, .p (.sl nets.length 2 L)), (61, .p (.v (.int .i64 nets.length))), (62, .p (.v (.int .i64 i)))] [(1, .box 84 [.p (.v (.string key)), .p (.v (.string sh)), .p (.v (.string ep)), .p (.v (.int .i64 al)), .p (.sl nets.length 2 L)])] := fun st hz hre => by
   refine ⟨m - 1, by omega, _, hre, i + 1, by omega, fun j hj => ?_, rfl⟩
   by_cases e : j = i
   ·rw [e]; exact hz
   ·exact hf j (by omega)
  have hcase : i = 0 ∨ ∃ j, i = j + 1 := by
   exact jbz
  rcases hcase with hi0 | ⟨j, hij⟩
  ·exact ja2
  ·obtain ⟨hpv, hple⟩ := hprev j hij
   rw [show i - 1 = j by omega] at hst
   generalize hpp : ntG nets j = pp at *
   obtain ⟨pa, pn⟩ := pp
   have hCm := nOrd_s qa qn pa pn
   have htn := netOrd_turn pa pn qa qn
   dsimp only at hst
   change Fn prog _ [.agg [.p (.v (.int .u32 qa)), .p (.v (.int .i64 qn))], .agg [.p (.v (.int .u32 pa)), .p (.v (.int .i64 pn))]] _ _ at hCm
   generalize zcM pa pn qa qn = o at *
   generalize zcM qa qn pa pn = o' at *
   refine G [4, 4, 6] ?_
   refine zaa (zaM U82 sz88 (by omega) (by omega) (show _ = L.drop (j * 2) by congr 2; omega)) rfl rfl ?_
   refine zaa (zaI U88 rfl sz88 (by rw [List.length_drop]; omega) (hpv)) rfl rfl ?_
   (first | refine zcb rfl ?_ | refine zbO (fun n => 82 + 1000 * n) (hCm) rfl rfl func113 rfl rfl (by first | rfl | simp [AV.okInL, AV.okIn, zay]) rfl rfl rfl (by first | exact trivial | exact ⟨rfl, trivial⟩ | exact ⟨rfl, rfl, trivial⟩ | exact ⟨rfl, rfl, rfl, rfl, rfl, trivial⟩) rfl rfl rfl ?_)
   refine jcJ ?_
   refine cX (fun h => ?_) fun h => ?_
   ·have h8 : 0 ≤ o := htn.2 (by simpa using h)
    exact jbe
   have h8 : ¬ 0 ≤ o := fun h9 => htn.1 h9 (by simpa using h)
   rw [if_neg (by intro ⟨_, h9⟩; exact h8 h9)] at hst
   refine jct ?_
   refine hnext _ hst (zah id _ _ ?_ ?_ rfl)
   ·exact jak
   ·exact ⟨⟨rfl, rfl⟩, trivial⟩
 have hge : i = nets.length := by simp at h; omega
 exact jb0
theorem PE.of_ty {n : Nat} {ps : List PV} (h : Ty prog (n + 5) 84 ps) (hb : PV.bdL 1048576 ps) : ∃ p : PE, p.OK ∧ ps = p.pv := by
 obtain ⟨_, rfl, x0, _, rfl, t0, x1, _, rfl, t1, x2, _, rfl, t2, x3, _, rfl, t3, x4, _, rfl, t4, rfl⟩ := zbh (ts := [9, 9, 9, 3, 82]) (by kernel_rfl) h
 obtain ⟨a0, rfl, _⟩ := zbJ U9 t0
 obtain ⟨a1, rfl, _⟩ := zbJ U9 t1
 obtain ⟨a2, rfl, _⟩ := zbJ U9 t2
 obtain ⟨a3, rfl, w3⟩ := zbm U3 t3
 obtain ⟨l, rfl, hl, hok⟩ := ty_recs (f := ntC) (Q := ntOK) (sz := 2) U82 (by kernel_rfl) t4 fun x hx => by
  obtain ⟨_, rfl, y0, _, rfl, u0, y1, _, rfl, u1, rfl⟩ := zbh (ts := [86, 3]) (by kernel_rfl) hx
  obtain ⟨a, rfl, ha⟩ := zbm U86 u0
  obtain ⟨b, rfl, hb⟩ := zbm U3 u1
  obtain ⟨q0, q1⟩ := wf_u32 ha
  exact ⟨(a, b), ⟨q0, q1⟩, rfl⟩
 simp only [List.flatten_cons, List.flatten_nil, List.append_nil, List.singleton_append, List.cons_append, List.nil_append, PV.bdL, PV.bd, and_true] at hb
 refine ⟨⟨a0, a1, a2, a3, l⟩, ⟨?_, ?_, hok⟩, rfl⟩
 ·show a2.size < _
  omega
 ·show l.length ≤ _
  omega
end Go.Proofs.YtbjdjclkbjpebaaGreatDoor
