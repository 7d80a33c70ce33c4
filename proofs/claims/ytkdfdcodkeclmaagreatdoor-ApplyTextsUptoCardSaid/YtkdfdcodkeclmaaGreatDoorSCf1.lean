/- conf.Right, the reference's PeerFault, the law ConfRights, over data. -/
import Derived.Test.YtkdfdcodkeclmaaGreatDoorSNt1
import Derived.Test.YtkdfdcodkeclmaaGreatDoorSNetZ
import Derived.Test.YtkdfdcodkeclmaaGreatDoorSUtZ
import Derived.Test.YtkdfdcodkeclmaaGreatDoorSHx
namespace Go.Proofs.YtkdfdcodkeclmaaGreatDoor
open Tryz
open Go.RowKit Go.Sort
set_option linter.unusedVariables false
set_option linter.unusedSimpArgs false
set_option maxRecDepth 100000
def zcY : ByteArray := ⟨(Lib.repeatL [48] 64).toArray⟩
theorem zgw : zcY ≠ ⟨#[]⟩ := by
 intro h
 have := congrArg ByteArray.size h
 revert this
 decide +kernel
theorem zec : Fn prog 45 [.p (.v (.string ⟨#[48]⟩)), .p (.v (.int .i64 64))] (.p (.v (.string zcY))) [] := by
 refine zgO rfl fun w A us hA hus => ?_
 rw [repL_vs (vs := [.string ⟨#[48]⟩, .int .i64 64]) hus]
 exact (strings_Repeat ⟨#[48]⟩ 64 w (by decide) (by decide +kernel)).mono fun e w' ⟨he, hb⟩ => ⟨he, hb⟩
theorem nCmp_s (a n b m : Int) : Fn prog 67 [.agg (netA a n), .agg (netA b m)] (.p (.v (.int .i64 (zbj a n b m)))) [] :=
 zfl rfl (fun _ _ _ => za5 rfl) (compare_g a n b m)
theorem nOrd_s (a n b m : Int) : Fn prog 60 [.agg (netA a n), .agg (netA b m)] (.p (.v (.int .i64 (zbj a n b m)))) [] :=
 zfl rfl (fun _ _ _ => za5 rfl) (order_g a n b m)
theorem netOrd_turn (a n b m : Int) : 0 ≤ zbj a n b m ↔ zbj b m a n ≠ 1 := by
 unfold zbj ord3
 by_cases h : a = b
 ·subst h
  rw [if_pos rfl, if_pos rfl]
  split <;> split <;> (try split) <;> omega
 ·rw [if_neg h, if_neg (Ne.symm h)]
  split <;> split <;> (try split) <;> omega
abbrev NtP := Int × Int
def ntC (p : NtP) : List PV := [.v (.int .u32 p.1), .v (.int .i64 p.2)]
def ntOK (p : NtP) : Prop := 0 ≤ p.1 ∧ p.1 < 4294967296
def ntG (l : List NtP) (i : Nat) : NtP := l.getD i (0, 0)
def zb9 (l : List NtP) (i : Nat) : Int :=
 if zax (ntG l i).1 (ntG l i).2 ≠ 0 then zax (ntG l i).1 (ntG l i).2
 else if 0 < i ∧ 0 ≤ zbj (ntG l (i - 1)).1 (ntG l (i - 1)).2 (ntG l i).1 (ntG l i).2 then 6 else 0
def ntsE (l : List NtP) : Int := fnz (zb9 l) l.length
structure PE where
 key : ByteArray
 sh : ByteArray
 ep : ByteArray
 al : Int
 nets : List NtP
def PE.cells (p : PE) : List AV := [.p (.v (.string p.key)), .p (.v (.string p.sh)), .p (.v (.string p.ep)), .p (.v (.int .i64 p.al)), .p (.sl p.nets.length 2 (p.nets.flatMap ntC))]
def PE.pv (p : PE) : List PV := [.v (.string p.key), .v (.string p.sh), .v (.string p.ep), .v (.int .i64 p.al), .sl p.nets.length 2 (p.nets.flatMap ntC)]
structure PE.OK (p : PE) : Prop where
 ep : p.ep.size < 4294967281
 len : p.nets.length ≤ 140737488351232
 nets : ∀ n ∈ p.nets, ntOK n
def peE (p : PE) : Int :=
 if keyE p.key ≠ 0 then keyE p.key else if p.sh ≠ ⟨#[]⟩ ∧ keyE p.sh ≠ 0 then keyE p.sh else if p.sh = zcY then 3
 else if p.ep ≠ ⟨#[]⟩ ∧ enE p.ep ≠ 0 then enE p.ep else if p.al < 0 ∨ 65535 < p.al then 4 else if 8 < p.nets.length then 1 else ntsE p.nets
theorem enR_e (s : ByteArray) : ∃ a b : Int, enR s = .tup [.p (.v (.int .u32 a)), .p (.v (.int .i64 b)), .p (.v (.int .i64 (enE s)))] := by
 unfold enR enE
 split <;> exact ⟨_, _, rfl⟩
set_option maxHeartbeats 4000000 in
theorem right_s (p : PE) (ok : p.OK) : Fn prog 42 [.agg p.cells] (.p (.v (.int .i64 (peE p)))) [] := by
 obtain ⟨key, sh, ep, al, nets⟩ := p
 obtain ⟨ok1, ok2, ok3⟩ := ok
 dsimp only at ok1 ok2 ok3
 obtain ⟨E, hE⟩ : ∃ E, peE ⟨key, sh, ep, al, nets⟩ = E := ⟨_, rfl⟩
 rw [hE]
 unfold peE at hE
 dsimp only at hE
 have hK := zcl key
 have hS := zcl sh
 have hZ := zec
 have hEn := end_s ep ok1
 obtain ⟨ea, eb, hen⟩ := enR_e ep
 rw [hen] at hEn
 clear hen
 show Fn prog _ [.agg [.p (.v (.string key)), .p (.v (.string sh)), .p (.v (.string ep)), .p (.v (.int .i64 al)), .p (.sl nets.length 2 (nets.flatMap ntC))]] _ _
 have hzn := zgw
 have hNE : ntsE nets = fnz (zb9 nets) nets.length := rfl
 generalize keyE key = k1 at *
 generalize keyE sh = k2 at *
 generalize enE ep = e1 at *
 generalize zcY = ZZ at *
 refine fnI fun w0 A => ?_
 refine G [10] ?_
 refine cV hK ?_
 refine G [7, 9, 0] ?_
 refine zab _ rfl (fun h => ?_) (fun h => ?_)
 ·have h1 : k1 ≠ 0 := by simpa using h
  rw [if_pos h1] at hE
  subst hE
  refine G [6, 9, 0] ?_
  exact yE
 have h1 : k1 = 0 := by simpa using h
 clear h
 rw [if_neg (by simp [h1])] at hE
 by_cases h2 : sh ≠ ⟨#[]⟩ ∧ k2 ≠ 0
 ·rw [if_pos h2] at hE
  subst hE
  refine G [8, 9, 0] ?_
  refine zab _ rfl (fun h => ?_) (fun h => ?_)
  ·refine G [5] ?_
   refine cV hS ?_
   refine G [7, 9, 0] ?_
   refine zab _ rfl (fun h => ?_) (fun h => ?_)
   ·refine G [6, 9, 0] ?_
    exact yE
   ·exact absurd (by simpa using h) h2.2
  ·exact absurd (by simpa using h) h2.1
 rw [if_neg h2] at hE
 by_cases h3 : sh = ZZ
 ·rw [if_pos h3] at hE
  subst hE
  refine G [8, 9, 0] ?_
  refine zab _ rfl (fun h => ?_) (fun h => ?_)
  ·refine G [5] ?_
   refine cV hS ?_
   refine G [7, 9, 0] ?_
   refine zab _ rfl (fun h => ?_) (fun h => ?_)
   ·exact absurd ⟨by rw [h3]; exact hzn, by simpa using h⟩ h2
   ·refine G [5] ?_
    refine cK hZ ?_
    refine G [2, 9, 0] ?_
    refine zab _ rfl (fun h => ?_) (fun h => ?_)
    ·refine G [5, 9, 0] ?_
     exact yE
    ·exact absurd h3 (by simpa using h)
  ·exact absurd (by simpa using h) (show ¬ sh = ⟨#[]⟩ by rw [h3]; exact hzn)
 rw [if_neg h3] at hE
 refine G [8, 9, 0] ?_
 refine zey (St.of [(1, .ref 1 0)] [(1, .box 60 [.p (.v (.string key)), .p (.v (.string sh)), .p (.v (.string ep)), .p (.v (.int .i64 al)), .p (.sl nets.length 2 (nets.flatMap ntC))])]) ?_ ?_
 ·skip
  refine zab _ rfl (fun h => ?_) (fun h => ?_)
  ·refine G [5] ?_
   refine cV hS ?_
   refine G [7, 9, 0] ?_
   refine zab _ rfl (fun h => ?_) (fun h => ?_)
   ·exact absurd ⟨by simp_all, by simpa using h⟩ h2
   ·refine G [5] ?_
    refine cK hZ ?_
    refine G [2, 9, 0] ?_
    refine zab _ rfl (fun h => ?_) (fun h => ?_)
    ·exact absurd (by simpa using h) h3
    ·refine zaC ?_
     refine zaH ?_
     exact zak id _ _ (by repeat (first | exact trivial | refine ⟨⟨rfl, rfl⟩, ?_⟩)) (by repeat (first | exact trivial | refine ⟨⟨rfl, rfl⟩, ?_⟩)) rfl
  ·refine zaC ?_
   refine zaH ?_
   exact zak id _ _ (by repeat (first | exact trivial | refine ⟨⟨rfl, rfl⟩, ?_⟩)) (by repeat (first | exact trivial | refine ⟨⟨rfl, rfl⟩, ?_⟩)) rfl
 clear h2 h3 hzn
 by_cases h4 : ep ≠ ⟨#[]⟩ ∧ e1 ≠ 0
 ·rw [if_pos h4] at hE
  subst hE
  refine G [7, 9, 0] ?_
  refine zab _ rfl (fun h => ?_) (fun h => ?_)
  ·refine G [4] ?_
   refine cV hEn ?_
   refine G [13, 9, 0] ?_
   refine zab _ rfl (fun h => ?_) (fun h => ?_)
   ·refine G [6, 9, 0] ?_
    exact yE
   ·exact absurd (by simpa using h) h4.2
  ·exact absurd (by simpa using h) h4.1
 rw [if_neg h4] at hE
 refine G [7, 9, 0] ?_
 refine zey (St.of [(1, .ref 1 0)] [(1, .box 60 [.p (.v (.string key)), .p (.v (.string sh)), .p (.v (.string ep)), .p (.v (.int .i64 al)), .p (.sl nets.length 2 (nets.flatMap ntC))])]) ?_ ?_
 ·skip
  refine zab _ rfl (fun h => ?_) (fun h => ?_)
  ·refine G [4] ?_
   refine cV hEn ?_
   refine G [13, 9, 0] ?_
   refine zab _ rfl (fun h => ?_) (fun h => ?_)
   ·exact absurd ⟨by simp_all, by simpa using h⟩ h4
   ·refine zaC ?_
    refine zaH ?_
    exact zak id _ _ (by repeat (first | exact trivial | refine ⟨⟨rfl, rfl⟩, ?_⟩)) (by repeat (first | exact trivial | refine ⟨⟨rfl, rfl⟩, ?_⟩)) rfl
  ·refine zaC ?_
   refine zaH ?_
   exact zak id _ _ (by repeat (first | exact trivial | refine ⟨⟨rfl, rfl⟩, ?_⟩)) (by repeat (first | exact trivial | refine ⟨⟨rfl, rfl⟩, ?_⟩)) rfl
 clear h4
 refine G [10, 2, 1, 9, 0] ?_
 refine zab _ rfl (fun h => ?_) (fun h => ?_)
 ·have h5 : al < 0 ∨ 65535 < al := by simpa using h
  rw [if_pos h5] at hE
  subst hE
  refine G [5, 9, 0] ?_
  exact yE
 have h5 : ¬ (al < 0 ∨ 65535 < al) := by simp at h; omega
 clear h
 rw [if_neg h5] at hE
 refine G [6] ?_
 refine zaa (zaL U58) rfl rfl ?_
 refine G [2, 9, 0] ?_
 refine zab _ rfl (fun h => ?_) (fun h => ?_)
 ·have h6 : 8 < nets.length := by simp at h; omega
  rw [if_pos h6] at hE
  subst hE
  refine G [5, 9, 0] ?_
  exact yE
 have h6 : ¬ 8 < nets.length := by simp at h; omega
 clear h
 rw [if_neg h6, hNE] at hE
 refine G [6] ?_
 refine zaa (zaL U58) rfl rfl ?_
 refine G [3] ?_
 refine zal (fun m st => ∃ i : Nat, m + i = nets.length ∧ (∀ j, j < i → zb9 nets j = 0) ∧ st = St.of [(1, .ref 1 0), (56, .p (.sl nets.length 2 (nets.flatMap ntC))), (57, .p (.v (.int .i64 nets.length))), (58, .p (.v (.int .i64 i)))] [(1, .box 60 [.p (.v (.string key)), .p (.v (.string sh)), .p (.v (.string ep)), .p (.v (.int .i64 al)), .p (.sl nets.length 2 (nets.flatMap ntC))])]) nets.length ?_ ?_
 ·refine ⟨_, zak id _ _ ?_ ?_ rfl, 0, by omega, by omega, rfl⟩
  ·(repeat (first | exact trivial | (refine ⟨⟨(by first | rfl | (simp; done) | (simp; omega)), rfl⟩, ?_⟩)))
  ·exact ⟨⟨rfl, rfl⟩, trivial⟩
 rintro m st ⟨i, hi, hf, rfl⟩
 refine G [5] ?_
 refine zab _ rfl (fun h => ?_) (fun h => ?_)
 ·have hlt : i < nets.length := by simp at h; omega
  clear h
  obtain ⟨q, hq⟩ : ∃ q, nets[i]? = some q := ⟨nets[i], List.getElem?_eq_getElem hlt⟩
  have hch := zav (f := ntC) (k := 2) (fun _ => rfl) hq
  have hle := zau (f := ntC) (k := 2) (fun _ => rfl) hlt
  have hqk := ok3 q (List.mem_of_getElem? hq)
  have hC := zfj q.1 q.2 hqk.1 hqk.2
  have hhit := @zfQ (zb9 nets) i nets.length hf hlt
  have hgq : ntG nets i = q := by unfold ntG; rw [List.getD_eq_getElem?_getD, hq]; rfl
  have hst : zb9 nets i = if zax q.1 q.2 ≠ 0 then zax q.1 q.2 else if 0 < i ∧ 0 ≤ zbj (ntG nets (i - 1)).1 (ntG nets (i - 1)).2 q.1 q.2 then 6 else 0 := by unfold zb9; rw [hgq]
  obtain ⟨qa, qn⟩ := q
  dsimp only at hst hC
  change Fn prog _ [.agg [.p (.v (.int .u32 qa)), .p (.v (.int .i64 qn))]] _ _ at hC
  have hprev : ∀ j, i = j + 1 → (((nets.flatMap ntC).drop (j * 2)).take 2 = ntC (ntG nets j)) ∧ j * 2 + 2 ≤ (nets.flatMap ntC).length := by
   intro j hj
   obtain ⟨r, hr⟩ : ∃ r, nets[j]? = some r := ⟨nets[j], List.getElem?_eq_getElem (by omega)⟩
   have : ntG nets j = r := by unfold ntG; rw [List.getD_eq_getElem?_getD, hr]; rfl
   rw [this]
   exact ⟨zav (f := ntC) (k := 2) (fun _ => rfl) hr, zau (f := ntC) (k := 2) (fun _ => rfl) (by omega)⟩
  generalize hL : nets.flatMap ntC = L at *
  generalize hFl : zax qa qn = fe at *
  refine G [6] ?_
  refine zaa (zad U58 sz27 (by omega) (by omega) rfl) rfl rfl ?_
  refine zaa (zaq U27 rfl sz27 (by rw [List.length_drop]; omega) (hch)) rfl rfl ?_
  refine G [2] ?_
  refine zac (zap (Y := .agg [.p (.v (.int .u32 qa)), .p (.v (.int .i64 qn))]) sz27 rfl rfl (Nat.eq_of_beq_eq_true rfl)) rfl rfl ⟨rfl, trivial⟩ ?_
  refine G [5] ?_
  refine cV hC ?_
  refine G [7, 9, 0] ?_
  refine zab _ rfl (fun h => ?_) (fun h => ?_)
  ·have h7 : fe ≠ 0 := by simpa using h
   rw [if_pos h7] at hst
   rw [hhit (by rw [hst]; exact h7), hst] at hE
   subst hE
   refine G [6, 9, 0] ?_
   exact yE
  have h7 : fe = 0 := by simpa using h
  clear h
  rw [if_neg (by simp [h7])] at hst
  have hnext : ∀ st, zb9 nets i = 0 → Re st (St.of [(1, .ref 1 0), (56, .p (.sl nets.length 2 L)), (57, .p (.v (.int .i64 nets.length))), (58, .p (.v (.int .i64 ((i + 1 : Nat) : Int))))] [(1, .box 60 [.p (.v (.string key)), .p (.v (.string sh)), .p (.v (.string ep)), .p (.v (.int .i64 al)), .p (.sl nets.length 2 L)])]) →
    ∃ n', n' < m ∧ ∃ st1, Re st st1 ∧ ∃ i : Nat, n' + i = nets.length ∧ (∀ j, j < i → zb9 nets j = 0) ∧ st1 = St.of [(1, .ref 1 0), (56, .p (.sl nets.length 2 L)), (57, .p (.v (.int .i64 nets.length))), (58, .p (.v (.int .i64 i)))] [(1, .box 60 [.p (.v (.string key)), .p (.v (.string sh)), .p (.v (.string ep)), .p (.v (.int .i64 al)), .p (.sl nets.length 2 L)])] := fun st hz hre => by
   refine ⟨m - 1, by omega, _, hre, i + 1, by omega, fun j hj => ?_, rfl⟩
   by_cases e : j = i
   ·rw [e]; exact hz
   ·exact hf j (by omega)
  have hcase : i = 0 ∨ ∃ j, i = j + 1 := by
   cases i with
   | zero => exact .inl rfl
   | succ j => exact .inr ⟨j, rfl⟩
  rcases hcase with hi0 | ⟨j, hij⟩
  ·rw [if_neg (by omega)] at hst
   refine G [4] ?_
   refine zaa (zbk (c := false) (by simp; omega)) rfl rfl ?_
   refine G [12, 9, 0] ?_
   refine zab _ rfl (fun h => ?_) (fun h => ?_)
   ·cases h
   refine G [2] ?_
   refine zaa (zas (by first | exact IntWalk.i64_in _ (by omega) | rfl)) rfl rfl ?_
   refine G [2, 9, 0] ?_
   refine hnext _ hst (zak id _ _ ?_ ?_ rfl)
   ·(repeat (first | exact trivial | (refine ⟨⟨(by first | rfl | (simp; done) | (simp; omega)), rfl⟩, ?_⟩)))
   ·exact ⟨⟨rfl, rfl⟩, trivial⟩
  ·obtain ⟨hpv, hple⟩ := hprev j hij
   rw [show i - 1 = j by omega] at hst
   generalize hpp : ntG nets j = pp at *
   obtain ⟨pa, pn⟩ := pp
   have hCm := nCmp_s pa pn qa qn
   dsimp only at hst
   change Fn prog _ [.agg [.p (.v (.int .u32 pa)), .p (.v (.int .i64 pn))], .agg [.p (.v (.int .u32 qa)), .p (.v (.int .i64 qn))]] _ _ at hCm
   generalize zbj pa pn qa qn = o at *
   refine G [4] ?_
   refine zaa (zbk (c := true) (by simp; omega)) rfl rfl ?_
   refine G [4] ?_
   refine zaa (zdZ (by first | exact IntWalk.i64_in _ (by omega) | rfl)) rfl rfl ?_
   refine zaa (zad U58 sz27 (by omega) (by omega) (show _ = L.drop (j * 2) by congr 2; omega)) rfl rfl ?_
   refine zaa (zaq U27 rfl sz27 (by rw [List.length_drop]; omega) (hpv)) rfl rfl ?_
   refine lN U27 rfl sz27 rfl rfl ⟨rfl, trivial⟩ ?_
   (first | refine za1 rfl ?_ | refine zaw (fun n => 78 + 1000 * n) (hCm) rfl rfl func67 rfl rfl (by first | rfl | simp [AV.okInL, AV.okIn, zaj]) rfl rfl rfl (by first | exact trivial | exact ⟨rfl, trivial⟩ | exact ⟨rfl, rfl, trivial⟩ | exact ⟨rfl, rfl, rfl, rfl, rfl, trivial⟩) rfl rfl rfl ?_)
   refine G [3, 9, 0] ?_
   refine zab _ rfl (fun h => ?_) (fun h => ?_)
   ·have h8 : 0 ≤ o := by simpa using h
    rw [if_pos ⟨by omega, h8⟩] at hst
    rw [hhit (by rw [hst]; decide), hst] at hE
    subst hE
    refine G [5, 9, 0] ?_
    exact yE
   have h8 : ¬ 0 ≤ o := by simpa using h
   rw [if_neg (by intro ⟨_, h9⟩; exact h8 h9)] at hst
   refine G [2] ?_
   refine zaa (zas (by first | exact IntWalk.i64_in _ (by omega) | rfl)) rfl rfl ?_
   refine G [2, 9, 0] ?_
   refine hnext _ hst (zak id _ _ ?_ ?_ rfl)
   ·(repeat (first | exact trivial | (refine ⟨⟨(by first | rfl | (simp; done) | (simp; omega)), rfl⟩, ?_⟩)))
   ·exact ⟨⟨rfl, rfl⟩, trivial⟩
 have hge : i = nets.length := by simp at h; omega
 clear h
 subst hge
 rw [zgq hf] at hE
 subst hE
 refine G [6, 9, 0] ?_
 exact yE
theorem zeJ : Fn prog 59 [] (.p (.v (.string zcY))) [] := by
 have hZ := zec
 generalize zcY = Z at *
 refine fnI fun w0 A => ?_
 refine G [6] ?_
 refine cK hZ ?_
 refine G [3, 9, 0] ?_
 exact yE
set_option maxHeartbeats 4000000 in
theorem refPeer_s (p : PE) (ok : p.OK) : Fn prog 56 [.agg p.cells] (.p (.v (.int .i64 (peE p)))) [] := by
 obtain ⟨key, sh, ep, al, nets⟩ := p
 obtain ⟨ok1, ok2, ok3⟩ := ok
 dsimp only at ok1 ok2 ok3
 obtain ⟨E, hE⟩ : ∃ E, peE ⟨key, sh, ep, al, nets⟩ = E := ⟨_, rfl⟩
 rw [hE]
 unfold peE at hE
 dsimp only at hE
 have hK := zck key
 have hS := zck sh
 have hZ := zeJ
 have hEn := refEnd_s ep ok1
 obtain ⟨ea, eb, hen⟩ := enR_e ep
 rw [hen] at hEn
 clear hen
 show Fn prog _ [.agg [.p (.v (.string key)), .p (.v (.string sh)), .p (.v (.string ep)), .p (.v (.int .i64 al)), .p (.sl nets.length 2 (nets.flatMap ntC))]] _ _
 have hzn := zgw
 have hNE : ntsE nets = fnz (zb9 nets) nets.length := rfl
 generalize keyE key = k1 at *
 generalize keyE sh = k2 at *
 generalize enE ep = e1 at *
 generalize zcY = ZZ at *
 refine fnI fun w0 A => ?_
 refine G [10] ?_
 refine cV hK ?_
 refine G [7, 9, 0] ?_
 refine zab _ rfl (fun h => ?_) (fun h => ?_)
 ·have h1 : k1 ≠ 0 := by simpa using h
  rw [if_pos h1] at hE
  subst hE
  refine G [6, 9, 0] ?_
  exact yE
 have h1 : k1 = 0 := by simpa using h
 clear h
 rw [if_neg (by simp [h1])] at hE
 refine G [10] ?_
 refine mb2 _ rfl rfl (fun _ => zfo func55 rfl rfl (hS) (by first | rfl | simp [AV.okInL, AV.okIn, zaj]) rfl) (fun _ => trivial) ?_
 refine G [1, 2, 1, 9, 0] ?_
 refine zab _ rfl (fun h => ?_) (fun h => ?_)
 ·have h2 : sh ≠ ⟨#[]⟩ ∧ k2 ≠ 0 := by simpa using h
  rw [if_pos h2] at hE
  subst hE
  refine G [4] ?_
  refine cV hS ?_
  refine G [3, 9, 0] ?_
  exact yE
 have h2 : ¬ (sh ≠ ⟨#[]⟩ ∧ k2 ≠ 0) := by
  intro ⟨h3, h4⟩
  simp [h3, h4] at h
 clear h
 rw [if_neg h2] at hE
 refine G [6] ?_
 refine cK hZ ?_
 refine G [2, 9, 0] ?_
 refine zab _ rfl (fun h => ?_) (fun h => ?_)
 ·have h3 : sh = ZZ := by simpa using h
  rw [if_pos h3] at hE
  subst hE
  refine G [5, 9, 0] ?_
  exact yE
 have h3 : ¬ sh = ZZ := by simpa using h
 clear h
 rw [if_neg h3] at hE
 refine G [6] ?_
 refine cV hEn ?_
 refine G [16, 2, 1, 9, 0] ?_
 refine zab _ rfl (fun h => ?_) (fun h => ?_)
 ·have h4 : ep ≠ ⟨#[]⟩ ∧ e1 ≠ 0 := by simpa using h
  rw [if_pos h4] at hE
  subst hE
  refine G [6, 9, 0] ?_
  exact yE
 have h4 : ¬ (ep ≠ ⟨#[]⟩ ∧ e1 ≠ 0) := by
  intro ⟨h5, h6⟩
  simp [h5, h6] at h
 clear h
 rw [if_neg h4] at hE
 refine G [11, 2, 1, 9, 0] ?_
 refine zab _ rfl (fun h => ?_) (fun h => ?_)
 ·have h5 : al < 0 ∨ 65535 < al := by simpa using h
  rw [if_pos h5] at hE
  subst hE
  refine G [5, 9, 0] ?_
  exact yE
 have h5 : ¬ (al < 0 ∨ 65535 < al) := by simp at h; omega
 clear h
 rw [if_neg h5] at hE
 refine G [6] ?_
 refine zaa (zaL U58) rfl rfl ?_
 refine G [2, 9, 0] ?_
 refine zab _ rfl (fun h => ?_) (fun h => ?_)
 ·have h6 : 8 < nets.length := by simp at h; omega
  rw [if_pos h6] at hE
  subst hE
  refine G [5, 9, 0] ?_
  exact yE
 have h6 : ¬ 8 < nets.length := by simp at h; omega
 clear h
 rw [if_neg h6, hNE] at hE
 refine G [6] ?_
 refine zaa (zaL U58) rfl rfl ?_
 refine G [3] ?_
 refine zal (fun m st => ∃ i : Nat, m + i = nets.length ∧ (∀ j, j < i → zb9 nets j = 0) ∧ st = St.of [(1, .ref 1 0), (60, .p (.sl nets.length 2 (nets.flatMap ntC))), (61, .p (.v (.int .i64 nets.length))), (62, .p (.v (.int .i64 i)))] [(1, .box 60 [.p (.v (.string key)), .p (.v (.string sh)), .p (.v (.string ep)), .p (.v (.int .i64 al)), .p (.sl nets.length 2 (nets.flatMap ntC))])]) nets.length ?_ ?_
 ·refine ⟨_, zak id _ _ ?_ ?_ rfl, 0, by omega, by omega, rfl⟩
  ·(repeat (first | exact trivial | (refine ⟨⟨(by first | rfl | (simp; done) | (simp; omega)), rfl⟩, ?_⟩)))
  ·exact ⟨⟨rfl, rfl⟩, trivial⟩
 rintro m st ⟨i, hi, hf, rfl⟩
 refine G [5] ?_
 refine zab _ rfl (fun h => ?_) (fun h => ?_)
 ·have hlt : i < nets.length := by simp at h; omega
  clear h
  obtain ⟨q, hq⟩ : ∃ q, nets[i]? = some q := ⟨nets[i], List.getElem?_eq_getElem hlt⟩
  have hch := zav (f := ntC) (k := 2) (fun _ => rfl) hq
  have hle := zau (f := ntC) (k := 2) (fun _ => rfl) hlt
  have hqk := ok3 q (List.mem_of_getElem? hq)
  have hC := zek q.1 q.2 hqk.1 hqk.2
  have hhit := @zfQ (zb9 nets) i nets.length hf hlt
  have hgq : ntG nets i = q := by unfold ntG; rw [List.getD_eq_getElem?_getD, hq]; rfl
  have hst : zb9 nets i = if zax q.1 q.2 ≠ 0 then zax q.1 q.2 else if 0 < i ∧ 0 ≤ zbj (ntG nets (i - 1)).1 (ntG nets (i - 1)).2 q.1 q.2 then 6 else 0 := by unfold zb9; rw [hgq]
  obtain ⟨qa, qn⟩ := q
  dsimp only at hst hC
  change Fn prog _ [.agg [.p (.v (.int .u32 qa)), .p (.v (.int .i64 qn))]] _ _ at hC
  have hprev : ∀ j, i = j + 1 → (((nets.flatMap ntC).drop (j * 2)).take 2 = ntC (ntG nets j)) ∧ j * 2 + 2 ≤ (nets.flatMap ntC).length := by
   intro j hj
   obtain ⟨r, hr⟩ : ∃ r, nets[j]? = some r := ⟨nets[j], List.getElem?_eq_getElem (by omega)⟩
   have : ntG nets j = r := by unfold ntG; rw [List.getD_eq_getElem?_getD, hr]; rfl
   rw [this]
   exact ⟨zav (f := ntC) (k := 2) (fun _ => rfl) hr, zau (f := ntC) (k := 2) (fun _ => rfl) (by omega)⟩
  generalize hL : nets.flatMap ntC = L at *
  generalize hFl : zax qa qn = fe at *
  refine G [6] ?_
  refine zaa (zad U58 sz27 (by omega) (by omega) rfl) rfl rfl ?_
  refine zaa (zaq U27 rfl sz27 (by rw [List.length_drop]; omega) (hch)) rfl rfl ?_
  refine G [2] ?_
  refine zac (zap (Y := .agg [.p (.v (.int .u32 qa)), .p (.v (.int .i64 qn))]) sz27 rfl rfl (Nat.eq_of_beq_eq_true rfl)) rfl rfl ⟨rfl, trivial⟩ ?_
  refine G [5] ?_
  refine cV hC ?_
  refine G [7, 9, 0] ?_
  refine zab _ rfl (fun h => ?_) (fun h => ?_)
  ·have h7 : fe ≠ 0 := by simpa using h
   rw [if_pos h7] at hst
   rw [hhit (by rw [hst]; exact h7), hst] at hE
   subst hE
   refine G [6, 9, 0] ?_
   exact yE
  have h7 : fe = 0 := by simpa using h
  clear h
  rw [if_neg (by simp [h7])] at hst
  have hnext : ∀ st, zb9 nets i = 0 → Re st (St.of [(1, .ref 1 0), (60, .p (.sl nets.length 2 L)), (61, .p (.v (.int .i64 nets.length))), (62, .p (.v (.int .i64 ((i + 1 : Nat) : Int))))] [(1, .box 60 [.p (.v (.string key)), .p (.v (.string sh)), .p (.v (.string ep)), .p (.v (.int .i64 al)), .p (.sl nets.length 2 L)])]) →
    ∃ n', n' < m ∧ ∃ st1, Re st st1 ∧ ∃ i : Nat, n' + i = nets.length ∧ (∀ j, j < i → zb9 nets j = 0) ∧ st1 = St.of [(1, .ref 1 0), (60, .p (.sl nets.length 2 L)), (61, .p (.v (.int .i64 nets.length))), (62, .p (.v (.int .i64 i)))] [(1, .box 60 [.p (.v (.string key)), .p (.v (.string sh)), .p (.v (.string ep)), .p (.v (.int .i64 al)), .p (.sl nets.length 2 L)])] := fun st hz hre => by
   refine ⟨m - 1, by omega, _, hre, i + 1, by omega, fun j hj => ?_, rfl⟩
   by_cases e : j = i
   ·rw [e]; exact hz
   ·exact hf j (by omega)
  have hcase : i = 0 ∨ ∃ j, i = j + 1 := by
   cases i with
   | zero => exact .inl rfl
   | succ j => exact .inr ⟨j, rfl⟩
  rcases hcase with hi0 | ⟨j, hij⟩
  ·rw [if_neg (by omega)] at hst
   refine G [4] ?_
   refine zaa (zbk (c := false) (by simp; omega)) rfl rfl ?_
   refine G [12, 9, 0] ?_
   refine zab _ rfl (fun h => ?_) (fun h => ?_)
   ·cases h
   refine G [2] ?_
   refine zaa (zas (by first | exact IntWalk.i64_in _ (by omega) | rfl)) rfl rfl ?_
   refine G [2, 9, 0] ?_
   refine hnext _ hst (zak id _ _ ?_ ?_ rfl)
   ·(repeat (first | exact trivial | (refine ⟨⟨(by first | rfl | (simp; done) | (simp; omega)), rfl⟩, ?_⟩)))
   ·exact ⟨⟨rfl, rfl⟩, trivial⟩
  ·obtain ⟨hpv, hple⟩ := hprev j hij
   rw [show i - 1 = j by omega] at hst
   generalize hpp : ntG nets j = pp at *
   obtain ⟨pa, pn⟩ := pp
   have hCm := nOrd_s qa qn pa pn
   have htn := netOrd_turn pa pn qa qn
   dsimp only at hst
   change Fn prog _ [.agg [.p (.v (.int .u32 qa)), .p (.v (.int .i64 qn))], .agg [.p (.v (.int .u32 pa)), .p (.v (.int .i64 pn))]] _ _ at hCm
   generalize zbj pa pn qa qn = o at *
   generalize zbj qa qn pa pn = o' at *
   refine G [4] ?_
   refine zaa (zbk (c := true) (by simp; omega)) rfl rfl ?_
   refine G [5] ?_
   refine zaa (zdZ (by first | exact IntWalk.i64_in _ (by omega) | rfl)) rfl rfl ?_
   refine zaa (zad U58 sz27 (by omega) (by omega) (show _ = L.drop (j * 2) by congr 2; omega)) rfl rfl ?_
   refine zaa (zaq U27 rfl sz27 (by rw [List.length_drop]; omega) (hpv)) rfl rfl ?_
   (first | refine za1 rfl ?_ | refine zaw (fun n => 82 + 1000 * n) (hCm) rfl rfl func60 rfl rfl (by first | rfl | simp [AV.okInL, AV.okIn, zaj]) rfl rfl rfl (by first | exact trivial | exact ⟨rfl, trivial⟩ | exact ⟨rfl, rfl, trivial⟩ | exact ⟨rfl, rfl, rfl, rfl, rfl, trivial⟩) rfl rfl rfl ?_)
   refine G [3, 9, 0] ?_
   refine zab _ rfl (fun h => ?_) (fun h => ?_)
   ·have h8 : 0 ≤ o := htn.2 (by simpa using h)
    rw [if_pos ⟨by omega, h8⟩] at hst
    rw [hhit (by rw [hst]; decide), hst] at hE
    subst hE
    refine G [5, 9, 0] ?_
    exact yE
   have h8 : ¬ 0 ≤ o := fun h9 => htn.1 h9 (by simpa using h)
   rw [if_neg (by intro ⟨_, h9⟩; exact h8 h9)] at hst
   refine G [2] ?_
   refine zaa (zas (by first | exact IntWalk.i64_in _ (by omega) | rfl)) rfl rfl ?_
   refine G [2, 9, 0] ?_
   refine hnext _ hst (zak id _ _ ?_ ?_ rfl)
   ·(repeat (first | exact trivial | (refine ⟨⟨(by first | rfl | (simp; done) | (simp; omega)), rfl⟩, ?_⟩)))
   ·exact ⟨⟨rfl, rfl⟩, trivial⟩
 have hge : i = nets.length := by simp at h; omega
 clear h
 subst hge
 rw [zgq hf] at hE
 subst hE
 refine G [6, 9, 0] ?_
 exact yE
theorem PE.of_ty {n : Nat} {ps : List PV} (h : Ty prog (n + 5) 60 ps) (hb : PV.bdL 1048576 ps) : ∃ p : PE, p.OK ∧ ps = p.pv := by
 obtain ⟨_, rfl, x0, _, rfl, t0, x1, _, rfl, t1, x2, _, rfl, t2, x3, _, rfl, t3, x4, _, rfl, t4, rfl⟩ := zdk (ts := [9, 9, 9, 3, 58]) (by kernel_rfl) h
 obtain ⟨a0, rfl, _⟩ := zcQ U9 t0
 obtain ⟨a1, rfl, _⟩ := zcQ U9 t1
 obtain ⟨a2, rfl, _⟩ := zcQ U9 t2
 obtain ⟨a3, rfl, w3⟩ := zeZ U3 t3
 obtain ⟨l, rfl, hl, hok⟩ := ty_recs (f := ntC) (Q := ntOK) (sz := 2) U58 (by kernel_rfl) t4 fun x hx => by
  obtain ⟨_, rfl, y0, _, rfl, u0, y1, _, rfl, u1, rfl⟩ := zdk (ts := [25, 3]) (by kernel_rfl) hx
  obtain ⟨a, rfl, ha⟩ := zeZ U25 u0
  obtain ⟨b, rfl, hb⟩ := zeZ U3 u1
  obtain ⟨q0, q1⟩ := wf_u32 ha
  exact ⟨(a, b), ⟨q0, q1⟩, rfl⟩
 simp only [List.flatten_cons, List.flatten_nil, List.append_nil, List.singleton_append, List.cons_append, List.nil_append, PV.bdL, PV.bd, and_true] at hb
 refine ⟨⟨a0, a1, a2, a3, l⟩, ⟨?_, ?_, hok⟩, rfl⟩
 ·show a2.size < _
  omega
 ·show l.length ≤ _
  omega
end Go.Proofs.YtkdfdcodkeclmaaGreatDoor
