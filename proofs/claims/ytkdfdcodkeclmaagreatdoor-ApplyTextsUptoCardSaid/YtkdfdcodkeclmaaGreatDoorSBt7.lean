/- The reference's SettingOf, the law BatchReads, over data. -/
import Derived.Test.YtkdfdcodkeclmaaGreatDoorSBt6
namespace Go.Proofs.YtkdfdcodkeclmaaGreatDoor
open Go.RowKit Go.Sort
set_option linter.unusedVariables false
set_option linter.unusedSimpArgs false
set_option maxRecDepth 100000
def C4 (k : Int) (v : ByteArray) (j : Nat) : SE :=
 if j = 0 then ⟨k, ⟨#[]⟩, 0, 0, 0⟩ else if j = 1 then ⟨k, v, 0, 0, 0⟩ else if j = 2 then ⟨k, ⟨#[]⟩, numV v 65535, 0, 0⟩ else ⟨k, ⟨#[]⟩, 0, npX v, npY v⟩
theorem C4_ok {k : Int} {v : ByteArray} (hv : v.size < 4294967281) (j : Nat) : (C4 k v j).OK := by
 have h1 := numV_in v
 have h2 := npX_in v
 unfold C4
 split
 ·exact ⟨by show (0 : Nat) < _; omega, by simp, by simp, by simp, by simp⟩
 ·split
  ·exact ⟨hv, by simp, by simp, by simp, by simp⟩
  ·split
   ·exact ⟨by show (0 : Nat) < _; omega, by dsimp only; omega, by dsimp only; omega, by simp, by simp⟩
   ·exact ⟨by show (0 : Nat) < _; omega, by simp, by simp, h2.1, h2.2⟩
theorem seE_F {s : SE} (h : seE s = 0) : ¬ seF s := by
 unfold seE at h
 split at h
 ·cases h
 ·split at h
  ·cases h
  ·assumption
theorem ten {k : Int} (h0 : 1 ≤ k) (h1 : k ≤ 10) : k = 1 ∨ k = 2 ∨ k = 3 ∨ k = 4 ∨ k = 5 ∨ k = 6 ∨ k = 7 ∨ k = 8 ∨ k = 9 ∨ k = 10 := by omega
theorem zfI : itoS 0 = ⟨#[48]⟩ := by
 unfold itoS Lib.itoa
 rw [if_neg (by omega)]
 rw [show (0 : Int).toNat = 0 from rfl, Lib.decDigits_one (by decide)]
 rfl
theorem ntX_zero : ntX 0 0 = ⟨#[48, 46, 48, 46, 48, 46, 48, 47, 48]⟩ := by
 unfold ntX
 rw [if_pos (by decide)]
 unfold ntT
 rw [adT_eq]
 have h : ∀ k, adP 0 k = 0 := fun k => by unfold adP; simp
 rw [h, h, h, h, zfI]
 rfl
theorem numV_zero : numV ⟨#[48]⟩ 65535 = 0 := by decide +kernel
theorem np_zero : npX ⟨#[48, 46, 48, 46, 48, 46, 48, 47, 48]⟩ = 0 ∧ npY ⟨#[48, 46, 48, 46, 48, 46, 48, 47, 48]⟩ = 0 := by decide +kernel
theorem key_empty : keyE ⟨#[]⟩ ≠ 0 := by decide +kernel
theorem en_empty : enE ⟨#[]⟩ ≠ 0 := by decide +kernel
theorem c0_eq {k : Int} {v : ByteArray} (h0 : 1 ≤ k) (h1 : k ≤ 10) (h : seE ⟨k, ⟨#[]⟩, 0, 0, 0⟩ = 0) (hl : seL ⟨k, ⟨#[]⟩, 0, 0, 0⟩ = v) : (⟨k, ⟨#[]⟩, 0, 0, 0⟩ : SE) = bc k v := by
 have hV := seE_V h
 rcases ten h0 h1 with rfl | rfl | rfl | rfl | rfl | rfl | rfl | rfl | rfl | rfl
 ·rw [seV_1] at hV; exact absurd hV key_empty
 ·rw [seL_2, zfI] at hl; subst hl; simp [bc, numV_zero]
 ·simp [bc]
 ·rw [seV_4] at hV; exact absurd hV key_empty
 ·simp [bc]
 ·rw [seL_6, if_pos rfl] at hl; subst hl; simp [bc]
 ·rw [seV_7] at hV; exact absurd hV en_empty
 ·rw [seL_8, zfI] at hl; subst hl; simp [bc, numV_zero]
 ·simp [bc]
 ·rw [seL_10, ntX_zero] at hl; subst hl; simp [bc, np_zero.1, np_zero.2]
theorem c4_eq {k : Int} {v : ByteArray} (h0 : 1 ≤ k) (h1 : k ≤ 10) (j : Nat) (h : seE (C4 k v j) = 0) (hl : seL (C4 k v j) = v) : C4 k v j = bc k v := by
 have hF := seE_F h
 have hV := seE_V h
 unfold C4 at *
 by_cases j0 : j = 0
 ·rw [if_pos j0] at *
  exact c0_eq h0 h1 h hl
 rw [if_neg j0] at *
 by_cases j1 : j = 1
 ·rw [if_pos j1] at *
  by_cases hT : isT k = true
  ·have : k = 1 ∨ k = 4 ∨ k = 6 ∨ k = 7 := by simpa [isT, or_assoc] using hT
   rcases this with rfl | rfl | rfl | rfl
   ·simp [bc]
   ·simp [bc]
   ·by_cases hz : v = zcY
    ·rw [seV_6, if_neg (by rw [hz]; exact zgw), if_pos hz] at hV
     cases hV
    ·simp [bc, hz]
   ·simp [bc]
  ·have hv : v = ⟨#[]⟩ := by
    refine Decidable.byContradiction fun hne => hF (.inl ⟨by simpa using hT, hne⟩)
   rw [hv] at h hl
   have := c0_eq h0 h1 h hl
   rw [hv]
   exact this
 rw [if_neg j1] at *
 by_cases j2 : j = 2
 ·rw [if_pos j2] at *
  by_cases hN : isN k = true
  ·have : k = 2 ∨ k = 8 := by simpa [isN] using hN
   unfold bc
   rw [if_pos this]
  ·have hv : numV v 65535 = 0 := by
    refine Decidable.byContradiction fun hne => hF (.inr (.inl ⟨by simpa using hN, hne⟩))
   rw [hv] at h hl ⊢
   exact c0_eq h0 h1 h hl
 rw [if_neg j2] at *
 by_cases hC : isC k = true
 ·have : k = 10 := by simpa [isC] using hC
  subst this
  simp [bc]
 ·have hv : npX v = 0 ∧ npY v = 0 := by
   refine Decidable.byContradiction fun hne => hF (.inr (.inr ⟨by simpa using hC, hne⟩))
  rw [hv.1, hv.2] at h hl ⊢
  exact c0_eq h0 h1 h hl
theorem bc_in4 (k : Int) (v : ByteArray) : ∃ j, j < 4 ∧ C4 k v j = bc k v := by
 unfold bc
 split
 ·exact ⟨2, by omega, by simp [C4]⟩
 ·split
  ·exact ⟨0, by omega, by simp [C4]⟩
  ·split
   ·rename_i h; exact ⟨3, by omega, by simp [C4]⟩
   ·split
    ·exact ⟨0, by omega, by simp [C4]⟩
    ·exact ⟨1, by omega, by simp [C4]⟩
theorem word_at0 : ∀ i : Nat, i < 11 → (za4.drop (i * 1))[0]? = some (.v (.string (word i)))
 | 0, _ => rfl
 | 1, _ => rfl
 | 2, _ => rfl
 | 3, _ => rfl
 | 4, _ => rfl
 | 5, _ => rfl
 | 6, _ => rfl
 | 7, _ => rfl
 | 8, _ => rfl
 | 9, _ => rfl
 | 10, _ => rfl
 | n + 11, h => by omega
def C4V (k : Int) (v : ByteArray) : List PV := (C4 k v 0).pv ++ (C4 k v 1).pv ++ (C4 k v 2).pv ++ (C4 k v 3).pv
theorem C4V_at (k : Int) (v : ByteArray) {j : Nat} (h : j < 4) : ((C4V k v).drop (j * 5)).take 5 = (C4 k v j).pv := by
 match j, h with
 | 0, _ => rfl
 | 1, _ => rfl
 | 2, _ => rfl
 | 3, _ => rfl
set_option maxHeartbeats 8000000 in
theorem refRead_s (key v : ByteArray) (hv : v.size < 4294967281) : Fn Tryz.prog 65 [.agg [.p (.v (.string key)), .p (.v (.string v))]] (rdR key v) [] := by
 obtain ⟨R, hR⟩ : ∃ R, rdR key v = R := ⟨_, rfl⟩
 rw [hR]
 unfold rdR at hR
 have hW := zcr
 have hwat := word_at0
 have hks := @kdF_some key
 have hkn := kdF_none key 11
 unfold kd at hR
 have hWl : za4.length = 11 := rfl
 generalize za4 = WV at *
 refine fnI fun w0 A => ?_
 refine G [9] ?_
 refine cK hW ?_
 refine zaa (zaL U89) rfl rfl ?_
 refine G [3] ?_
 refine zal (fun m st => ∃ i : Nat, m + i = 11 ∧ (∀ j : Nat, j < i → 0 < j → word j ≠ key) ∧ st = St.of [(1, .ref 1 0), (2, .ref 2 0), (14, .p (.sl 11 1 WV)), (15, .p (.v (.int .i64 11))), (16, .p (.v (.int .i64 i)))] [(1, .box 96 [.p (.v (.string key)), .p (.v (.string v))]), (2, .box 29 [.p (.v (.int .i64 0)), .p (.v (.string ⟨#[]⟩)), .p (.v (.int .i64 0)), .p (.v (.int .u32 0)), .p (.v (.int .i64 0))])]) 11 ?_ ?_
 ·refine ⟨_, zak id _ _ ?_ ?_ rfl, 0, by omega, by omega, rfl⟩
  ·(repeat (first | exact trivial | (refine ⟨⟨(by first | rfl | (simp; done) | (simp; omega)), rfl⟩, ?_⟩)))
  ·exact ⟨⟨rfl, rfl⟩, ⟨rfl, rfl⟩, trivial⟩
 rintro m st ⟨i, hi, hf, rfl⟩
 refine G [5] ?_
 refine zab _ rfl (fun h => ?_) (fun h => ?_)
 ·have hlt : i < 11 := by simp at h; omega
  clear h
  have hat := hwat i hlt
  have hkv : (0 < i → word i ≠ key) → ∀ st, Re st (St.of [(1, .ref 1 0), (2, .ref 2 0), (14, .p (.sl 11 1 WV)), (15, .p (.v (.int .i64 11))), (16, .p (.v (.int .i64 ((i + 1 : Nat) : Int))))] [(1, .box 96 [.p (.v (.string key)), .p (.v (.string v))]), (2, .box 29 [.p (.v (.int .i64 0)), .p (.v (.string ⟨#[]⟩)), .p (.v (.int .i64 0)), .p (.v (.int .u32 0)), .p (.v (.int .i64 0))])]) →
    ∃ n', n' < m ∧ ∃ st1, Re st st1 ∧ ∃ i : Nat, n' + i = 11 ∧ (∀ j : Nat, j < i → 0 < j → word j ≠ key) ∧ st1 = St.of [(1, .ref 1 0), (2, .ref 2 0), (14, .p (.sl 11 1 WV)), (15, .p (.v (.int .i64 11))), (16, .p (.v (.int .i64 i)))] [(1, .box 96 [.p (.v (.string key)), .p (.v (.string v))]), (2, .box 29 [.p (.v (.int .i64 0)), .p (.v (.string ⟨#[]⟩)), .p (.v (.int .i64 0)), .p (.v (.int .u32 0)), .p (.v (.int .i64 0))])] := fun hx st hre => by
   refine ⟨m - 1, by omega, _, hre, i + 1, by omega, fun j hj h0 => ?_, rfl⟩
   by_cases e : j = i
   ·subst e; exact hx h0
   ·exact hf j (by omega) h0
  by_cases h0 : 0 < i
  ·by_cases hw : word i = key
   ·have hkd := hks h0 hlt hw 11 hlt (by omega)
    rw [hkd, if_neg (by omega)] at hR
    have hA := fun j => @c4_eq (i : Int) v (by omega) (by omega) j
    obtain ⟨jb, hjb, hB⟩ := bc_in4 (i : Int) v
    have hlk := fun (j : Nat) (w u : ByteArray) => @zdU (C4 i v j) key v w u
    have hkk : ∀ j, (C4 i v j).k = i := fun j => by unfold C4; split; rfl; split; rfl; split <;> rfl
    have hL := fun j => refLine_s (C4 i v j) (C4_ok hv j)
    have hat4 := fun j hj => C4V_at (i : Int) v (j := j) hj
    have hl4 : (C4V (i : Int) v).length = 20 := rfl
    have hC0 : C4V (i : Int) v = [.v (.int .i64 i), .v (.string ⟨#[]⟩), .v (.int .i64 0), .v (.int .u32 0), .v (.int .i64 0), .v (.int .i64 i), .v (.string v), .v (.int .i64 0), .v (.int .u32 0), .v (.int .i64 0), .v (.int .i64 i), .v (.string ⟨#[]⟩), .v (.int .i64 (numV v 65535)), .v (.int .u32 0), .v (.int .i64 0), .v (.int .i64 i), .v (.string ⟨#[]⟩), .v (.int .i64 0), .v (.int .u32 (npX v)), .v (.int .i64 (npY v))] := rfl
    have hN := zfe v 65535 (by omega)
    unfold numR at hN
    have hP := refNtParse_s v hv
    obtain ⟨pe, hnp⟩ := npR_eq v
    rw [hnp] at hP
    clear hnp
    generalize C4V (i : Int) v = CV at *
    generalize hCf : C4 (i : Int) v = C at *
    generalize bc (i : Int) v = B at *
    refine G [6] ?_
    refine zaa (zad U89 sz9 (by omega) (by omega) rfl) rfl rfl ?_
    refine zaa (zaZ U9 rfl hat) rfl rfl ?_
    refine G [7] ?_
    refine zaa (zaA (c := false) (by simp; omega)) rfl rfl ?_
    refine G [4] ?_
    refine zaa (zae (c := false) (by simp [hw])) rfl rfl ?_
    refine G [8] ?_
    refine cK hN ?_
    refine G [10] ?_
    refine cK hP ?_
    refine G [7] ?_
    generalize numV v 65535 = nv at *
    generalize npX v = xa at *
    generalize npY v = xb at *
    refine G [15] ?_
    refine zac (xs := [.agg [.p (.v (.int .i64 i)), .p (.v (.string ⟨#[]⟩)), .p (.v (.int .i64 0)), .p (.v (.int .u32 0)), .p (.v (.int .i64 0))], .agg [.p (.v (.int .i64 i)), .p (.v (.string v)), .p (.v (.int .i64 0)), .p (.v (.int .u32 0)), .p (.v (.int .i64 0))], .agg [.p (.v (.int .i64 i)), .p (.v (.string ⟨#[]⟩)), .p (.v (.int .i64 nv)), .p (.v (.int .u32 0)), .p (.v (.int .i64 0))], .agg [.p (.v (.int .i64 i)), .p (.v (.string ⟨#[]⟩)), .p (.v (.int .i64 0)), .p (.v (.int .u32 xa)), .p (.v (.int .i64 xb))]]) (zan (es := [.p (.v (.int .i64 i)), .p (.v (.string ⟨#[]⟩)), .p (.v (.int .i64 0)), .p (.v (.int .u32 0)), .p (.v (.int .i64 0)), .p (.v (.int .i64 i)), .p (.v (.string v)), .p (.v (.int .i64 0)), .p (.v (.int .u32 0)), .p (.v (.int .i64 0)), .p (.v (.int .i64 i)), .p (.v (.string ⟨#[]⟩)), .p (.v (.int .i64 nv)), .p (.v (.int .u32 0)), .p (.v (.int .i64 0)), .p (.v (.int .i64 i)), .p (.v (.string ⟨#[]⟩)), .p (.v (.int .i64 0)), .p (.v (.int .u32 xa)), .p (.v (.int .i64 xb))]) (cs := [.v (.int .i64 i), .v (.string ⟨#[]⟩), .v (.int .i64 0), .v (.int .u32 0), .v (.int .i64 0), .v (.int .i64 i), .v (.string v), .v (.int .i64 0), .v (.int .u32 0), .v (.int .i64 0), .v (.int .i64 i), .v (.string ⟨#[]⟩), .v (.int .i64 nv), .v (.int .u32 0), .v (.int .i64 0), .v (.int .i64 i), .v (.string ⟨#[]⟩), .v (.int .i64 0), .v (.int .u32 xa), .v (.int .i64 xb)]) 53 U35 sz29 zc29 (Nat.le_of_ble_eq_true rfl) (Nat.le_of_ble_eq_true rfl) rfl (by kernel_rfl) (by kernel_rfl) (by kernel_rfl) (Nat.le_of_ble_eq_true rfl)) (by first | rfl | kernel_rfl) rfl ⟨rfl, trivial⟩ ?_
    refine zac (zaG U35) rfl rfl ⟨rfl, trivial⟩ ?_
    refine G [3] ?_
    refine zal (fun m' st => ∃ j : Nat, m' + j = 4 ∧ (∀ q, q < j → ¬ isL (C q) key v) ∧ st = St.of [(1, .ref 1 0), (2, .ref 2 0), (53, .row 53), (54, .p (.v (.int .i64 4))), (55, .p (.v (.int .i64 j)))] [(1, .box 96 [.p (.v (.string key)), .p (.v (.string v))]), (2, .box 29 [.p (.v (.int .i64 0)), .p (.v (.string ⟨#[]⟩)), .p (.v (.int .i64 0)), .p (.v (.int .u32 0)), .p (.v (.int .i64 0))]), (53, .row 29 5 4 CV)]) 4 ?_ ?_
    ·refine ⟨_, zak id _ _ ?_ ?_ rfl, 0, by omega, by omega, rfl⟩
     ·(repeat (first | exact trivial | (refine ⟨⟨(by first | rfl | (simp; done) | (simp; omega)), rfl⟩, ?_⟩)))
     ·rw [hC0]
      exact ⟨⟨rfl, rfl⟩, ⟨rfl, rfl⟩, ⟨rfl, rfl⟩, trivial⟩
    clear hC0
    rintro m' st ⟨j, hj, hfj, rfl⟩
    refine G [5] ?_
    refine zab _ rfl (fun h => ?_) (fun h => ?_)
    ·have hlj : j < 4 := by simp at h; omega
     clear h
     have hch := hat4 j hlj
     obtain ⟨w, u, hsR⟩ := zdM (C j)
     have hLj := hL j
     have hlkj := hlk j w u hsR
     rw [hsR] at hLj
     have hAj := hA j
     have hnxj : ¬ isL (C j) key v → ∀ q, q < j + 1 → ¬ isL (C q) key v := fun hn q hq => by
      by_cases e : q = j
      ·subst e; exact hn
      ·exact hfj q (by omega)
     clear hsR hL hA hat4
     generalize C j = cj at *
     generalize seE cj = e at *
     obtain ⟨ck, ct, cn, ca, cb⟩ := cj
     change _ = [PV.v (.int .i64 ck), .v (.string ct), .v (.int .i64 cn), .v (.int .u32 ca), .v (.int .i64 cb)] at hch
     change Fn Tryz.prog _ [.agg [.p (.v (.int .i64 ck)), .p (.v (.string ct)), .p (.v (.int .i64 cn)), .p (.v (.int .u32 ca)), .p (.v (.int .i64 cb))]] _ _ at hLj
     refine G [5] ?_
     refine zac (zai U35 sz29 (by omega) (by omega) (show _ = j * 5 by omega)) rfl rfl ⟨rfl, trivial⟩ ?_
     refine zac (zeA U29 rfl sz29 (by omega) (hch)) rfl rfl ⟨rfl, trivial⟩ ?_
     refine zac (zaV 11 zr29 rfl) rfl rfl ⟨rfl, trivial⟩ ?_
     refine zac (zap (Y := .agg [.p (.v (.int .i64 ck)), .p (.v (.string ct)), .p (.v (.int .i64 cn)), .p (.v (.int .u32 ca)), .p (.v (.int .i64 cb))]) sz29 rfl rfl (Nat.eq_of_beq_eq_true rfl)) rfl rfl ⟨rfl, trivial⟩ ?_
     refine G [4] ?_
     refine cK hLj ?_
     refine G [7] ?_
     have hgo : ¬ isL ⟨ck, ct, cn, ca, cb⟩ key v → ∀ st, Re st (St.of [(1, .ref 1 0), (2, .ref 2 0), (53, .row 53), (54, .p (.v (.int .i64 4))), (55, .p (.v (.int .i64 ((j + 1 : Nat) : Int))))] [(1, .box 96 [.p (.v (.string key)), .p (.v (.string v))]), (2, .box 29 [.p (.v (.int .i64 0)), .p (.v (.string ⟨#[]⟩)), .p (.v (.int .i64 0)), .p (.v (.int .u32 0)), .p (.v (.int .i64 0))]), (53, .row 29 5 4 CV)]) →
       ∃ n', n' < m' ∧ ∃ st1, Re st st1 ∧ ∃ j : Nat, n' + j = 4 ∧ (∀ q, q < j → ¬ isL (C q) key v) ∧ st1 = St.of [(1, .ref 1 0), (2, .ref 2 0), (53, .row 53), (54, .p (.v (.int .i64 4))), (55, .p (.v (.int .i64 j)))] [(1, .box 96 [.p (.v (.string key)), .p (.v (.string v))]), (2, .box 29 [.p (.v (.int .i64 0)), .p (.v (.string ⟨#[]⟩)), .p (.v (.int .i64 0)), .p (.v (.int .u32 0)), .p (.v (.int .i64 0))]), (53, .row 29 5 4 CV)] := fun hn st hre => ⟨m' - 1, by omega, _, hre, j + 1, by omega, hnxj hn, rfl⟩
     by_cases he : e = 0
     ·by_cases hwu : w = key ∧ u = v
      ·have hisL := hlkj.2 ⟨he, hwu.1, hwu.2⟩
       have hceq := hAj he hisL.2.2
       rw [← hceq, if_pos hisL] at hR
       change AV.tup [.agg [.p (.v (.int .i64 ck)), .p (.v (.string ct)), .p (.v (.int .i64 cn)), .p (.v (.int .u32 ca)), .p (.v (.int .i64 cb))], .p (.v (.int .i64 0))] = R at hR
       subst hR
       refine G [3] ?_
       refine zaa (zaA (c := true) (by simp [he])) rfl rfl ?_
       refine G [3] ?_
       refine zaa (zez U96 rfl rfl (by kernel_rfl) (by kernel_rfl) (by kernel_rfl) (c := true) (by rw [hwu.1, hwu.2, zbF])) rfl rfl ?_
       refine G [9] ?_
       (repeat (first | refine zag ?_ | refine zaS ?_ | refine zaC ?_ | refine za2 ?_ | refine zbs ?_ | refine zaH ?_ | refine zcZ ?_ | refine zdl ?_ | refine zf7 ?_ | refine zfL ?_ | refine zer ?_ | refine zf6 rfl ?_))
       exact yE
      ·refine G [3] ?_
       refine zaa (zaA (c := true) (by simp [he])) rfl rfl ?_
       refine G [3] ?_
       refine zaa (zez U96 rfl rfl (by kernel_rfl) (by kernel_rfl) (by kernel_rfl) (c := false) (by rw [zdH]; simp only [Bool.and_eq_false_iff, decide_eq_false_iff_not]; grind)) rfl rfl ?_
       refine G [5] ?_
       refine zaa (zas (by first | exact IntWalk.i64_in _ (by omega) | rfl)) rfl rfl ?_
       refine G [2, 9, 0] ?_
       refine hgo (fun hh => hwu (hlkj.1 hh).2) _ (zak id _ _ ?_ ?_ rfl)
       ·(repeat (first | exact trivial | (refine ⟨⟨(by first | rfl | (simp; done) | (simp; omega)), rfl⟩, ?_⟩)))
       ·exact ⟨⟨rfl, rfl⟩, ⟨rfl, rfl⟩, ⟨rfl, rfl⟩, trivial⟩
     ·refine G [3] ?_
      refine zaa (zaA (c := false) (by simpa using he)) rfl rfl ?_
      refine G [9] ?_
      refine zaa (zas (by first | exact IntWalk.i64_in _ (by omega) | rfl)) rfl rfl ?_
      refine G [2, 9, 0] ?_
      refine hgo (fun hh => he (hlkj.1 hh).1) _ (zak id _ _ ?_ ?_ rfl)
      ·(repeat (first | exact trivial | (refine ⟨⟨(by first | rfl | (simp; done) | (simp; omega)), rfl⟩, ?_⟩)))
      ·exact ⟨⟨rfl, rfl⟩, ⟨rfl, rfl⟩, ⟨rfl, rfl⟩, trivial⟩
    have hge : j = 4 := by simp at h; omega
    clear h
    subst hge
    rw [← hB, if_neg (hfj jb hjb)] at hR
    change AV.tup [.agg [.p (.v (.int .i64 0)), .p (.v (.string ⟨#[]⟩)), .p (.v (.int .i64 0)), .p (.v (.int .u32 0)), .p (.v (.int .i64 0))], .p (.v (.int .i64 3))] = R at hR
    subst hR
    refine G [8, 9, 0] ?_
    exact yE
   ·refine G [6] ?_
    refine zaa (zad U89 sz9 (by omega) (by omega) rfl) rfl rfl ?_
    refine zaa (zaZ U9 rfl hat) rfl rfl ?_
    refine G [7] ?_
    refine zaa (zaA (c := false) (by simp; omega)) rfl rfl ?_
    refine G [4] ?_
    refine zaa (zae (c := true) (by simp [hw])) rfl rfl ?_
    refine G [5] ?_
    refine zaa (zas (by first | exact IntWalk.i64_in _ (by omega) | rfl)) rfl rfl ?_
    refine G [2, 9, 0] ?_
    refine hkv (fun _ => hw) _ (zak id _ _ ?_ ?_ rfl)
    ·(repeat (first | exact trivial | (refine ⟨⟨(by first | rfl | (simp; done) | (simp; omega)), rfl⟩, ?_⟩)))
    ·exact ⟨⟨rfl, rfl⟩, ⟨rfl, rfl⟩, trivial⟩
  ·refine G [6] ?_
   refine zaa (zad U89 sz9 (by omega) (by omega) rfl) rfl rfl ?_
   refine zaa (zaZ U9 rfl hat) rfl rfl ?_
   refine G [7] ?_
   refine zaa (zaA (c := true) (by simp; omega)) rfl rfl ?_
   refine G [10] ?_
   refine zaa (zas (by first | exact IntWalk.i64_in _ (by omega) | rfl)) rfl rfl ?_
   refine G [2, 9, 0] ?_
   refine hkv (fun h1 => absurd h1 h0) _ (zak id _ _ ?_ ?_ rfl)
   ·(repeat (first | exact trivial | (refine ⟨⟨(by first | rfl | (simp; done) | (simp; omega)), rfl⟩, ?_⟩)))
   ·exact ⟨⟨rfl, rfl⟩, ⟨rfl, rfl⟩, trivial⟩
 have hge : i = 11 := by simp at h; omega
 clear h
 subst hge
 rw [hkn hf, if_pos rfl] at hR
 change AV.tup [.agg [.p (.v (.int .i64 0)), .p (.v (.string ⟨#[]⟩)), .p (.v (.int .i64 0)), .p (.v (.int .u32 0)), .p (.v (.int .i64 0))], .p (.v (.int .i64 2))] = R at hR
 subst hR
 refine G [8, 9, 0] ?_
 exact yE
end Go.Proofs.YtkdfdcodkeclmaaGreatDoor
