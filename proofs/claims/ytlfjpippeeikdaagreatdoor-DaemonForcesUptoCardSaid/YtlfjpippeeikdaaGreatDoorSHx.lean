/- addr.Parse, addr.End, their references, over data. -/
import Derived.Test.YtlfjpippeeikdaaGreatDoorSSq
import Derived.Test.YtlfjpippeeikdaaGreatDoorSNetZ
set_option linter.all false
namespace Go.Proofs.YtlfjpippeeikdaaGreatDoor
open Tryz
open Go.RowKit Go.Sort
set_option maxHeartbeats 16000000
set_option maxRecDepth 100000
def adN (ts : List ByteArray) : Nat := ts.foldl (fun a t => a * 256 + valS t) 0
theorem adN_push (ts : List ByteArray) (t : ByteArray) : adN (ts ++ [t]) = adN ts * 256 + valS t := by simp [adN]
def okP (t : ByteArray) : Bool := numB t 255
theorem okP_val {t : ByteArray} (h : okP t = true) : valS t < 256 := by
 have := (zfn h).2
 omega
theorem ziH {l : List ByteArray} {i : Nat} {p : ByteArray} (hi : l[i]? = some p) : adN (l.take (i + 1)) = adN (l.take i) * 256 + valS p := by
 obtain ⟨h1, h2⟩ := qaG.1 hi
 rw [qaM h1, h2, adN_push]
theorem adN_lt {l : List ByteArray} : ∀ {i : Nat}, (∀ q ∈ l.take i, okP q = true) → i ≤ l.length → adN (l.take i) < 256 ^ i
 | 0, _, _ => by simp [adN]
 | i + 1, h, hl => by
  have hp : l[i]? = some (l[i]'qk) := List.getElem?_eq_getElem _
  rw [ziH hp]
  have e := qaM (show i < l.length by omega)
  have h1 := adN_lt (l := l) (i := i) (fun q hq => h q (by rw [e]; exact List.mem_append_left _ hq)) qk
  have h2 := okP_val (h (l[i]'qk) (by rw [e]; exact List.mem_append_right _ (qbC.2 rfl)))
  rw [qb5]
  omega
theorem takeP_ok {l : List ByteArray} {i : Nat} {p : ByteArray} (hi : l[i]? = some p) (hf : ∀ q ∈ l.take i, okP q = true) (hp : okP p = true) : ∀ q ∈ l.take (i + 1), okP q = true := by
 obtain ⟨h1, h2⟩ := qaG.1 hi
 intro q hq
 rw [qaM h1, h2] at hq
 rcases qaW.1 hq with hq | hq
 ·exact hf q hq
 ·have : q = p := by simpa using hq
  rw [this]; exact hp
def adOk (s : ByteArray) : Bool := decide (cntB s 46 = 3) && (spl s 46).all okP
def adR (s : ByteArray) : AV := if adOk s = true then .tup [qe (adN (spl s 46) : Nat), qd 0] else .tup [qe 0, qd 3]
theorem adR_good {s : ByteArray} (h1 : cntB s 46 = 3) (h2 : ∀ q ∈ spl s 46, okP q = true) : adR s = .tup [qe (adN (spl s 46) : Nat), qd 0] := by
 unfold adR adOk
 rw [if_pos (by simp [h1]; simpa using h2)]
theorem adR_bad1 {s : ByteArray} (h1 : cntB s 46 ≠ 3) : adR s = .tup [qe 0, qd 3] := by
 unfold adR adOk
 rw [if_neg (by simp [h1])]
theorem adR_bad2 {s q : ByteArray} (h1 : q ∈ spl s 46) (h2 : okP q = false) : adR s = .tup [qe 0, qd 3] := by
 unfold adR adOk
 rw [if_neg (by simp only [qaT, qbd, not_and]; intro _ h; rw [h q h1] at h2; cases h2)]
theorem u32_shl8 {a : Int} (h0 : 0 ≤ a) (h1 : a < 16777216) : IntKind.u32.wrap (a * 2 ^ min (8 : Int).toNat IntKind.u32.bits) = a * 256 := by
 rw [show (2 : Int) ^ min (8 : Int).toNat IntKind.u32.bits = 256 from rfl, qcg _ (by omega)]
theorem u32_or8 {a b : Nat} (h1 : a < 16777216) (hb : b < 256) : bits .or .u32 ((a : Int) * 256) (b : Int) = (a : Int) * 256 + b := by
 have := u32_or a b 8 hb qk
 rw [show ((a * 2 ^ 8 : Nat) : Int) = (a : Int) * 256 by omega] at this
 rw [this]; omega
theorem parse_s (s : ByteArray) (hs : s.size < 4294967281) : Fn prog 148 [qc s] (adR s) [] := by
 have hSp := split1_s s 46 hs
 have hlen := zfP s 46
 have hsz := spl_size s 46
 have hg := @adR_good s
 have hb1 := @adR_bad1 s
 have hb2 := @adR_bad2 s
 generalize adR s = R at *
 generalize spl s 46 = ps at *
 generalize cntB s 46 = N at *
 refine fnI fun w0 A => ?_
 refine G [8] ?_
 refine zbQ (fun n => 11 + 1000 * n) (hSp) rfl rfl func121 rfl rfl qJ qJ rfl rfl rfl ql rfl rfl rfl ?_
 refine G [9, 9, 0] ?_
 refine cX ?_ ?_ <;> intro h
 ·rw [hb1 (by simp at h; omega)]
  refine jcV ?_
  exact yE
 have h3 : N = 3 := by simp at h; omega
 clear h
 subst h3
 refine G [13] ?_
 refine zae (fun m st => ∃ i : Nat, m + i = 4 ∧ (∀ q ∈ ps.take i, okP q = true) ∧ st = St.of [(5, qe (adN (ps.take i) : Nat)), (15, .row 11), (16, qd 4), (17, qd i)] [(11, .row 9 1 4 (strs ps))]) 4 ?_ ?_
 ·refine ⟨_, zad id _ _ ?_ ?_ rfl, 0, qk, qz, rfl⟩
  ·exact ja5
  ·exact ⟨⟨rfl, rfl⟩, trivial⟩
 rintro m st ⟨i, hi, hf, rfl⟩
 refine G [5] ?_
 refine cX ?_ ?_ <;> intro h
 ·have hlt : i < 4 := by simp at h; omega
  clear h
  obtain ⟨p, hp⟩ : ∃ p, ps[i]? = some p := ⟨ps[i], List.getElem?_eq_getElem qk⟩
  have hat := strs_get hp
  have hpm := qaE hp
  have hC := small_s p 255 (by have := hsz p hpm; omega)
  have hok := takeP_ok hp hf
  have hnx := ziH hp
  have hlt2 := adN_lt hf qk
  have hlt3 : adN (ps.take i) < 16777216 := by
   have h1 : 256 ^ i ≤ 256 ^ 3 := qbA qw qk
   omega
  clear hlt2
  have hsl : (strs ps).length = 4 := by rw [strs_len, hlen]
  have hbad := hb2 hpm
  have hval := @okP_val p
  have hsm : okP p = true → smV p = (valS p : Nat) := fun h => by unfold smV; rw [if_pos (zfn h).1]
  change Fn prog _ _ (.tup [qd (smV p), qf (okP p)]) _ at hC
  generalize strs ps = SP at *
  generalize adN (ps.take i) = a at *
  cases hq : okP p with
  | false =>
   rw [hbad hq]
   rw [hq] at hC
   refine G [6] ?_
   refine zab (zbP U9 rfl qq) rfl rfl ⟨rfl, trivial⟩ ?_
   refine G [5] ?_
   refine cV hC ?_
   refine G [12, 9, 0] ?_
   refine cX ?_ ?_ <;> intro h
   ·refine G [6, 9, 0] ?_
    exact yE
   ·cases h
  | true =>
   have hv := hval hq
   rw [hq, hsm hq] at hC
   generalize valS p = v at *
   have s8 := u32_shl8 (a := (a : Int)) qk qk
   have o8 := u32_or8 hlt3 hv
   refine G [6] ?_
   refine zab (zbP U9 rfl qq) rfl rfl ⟨rfl, trivial⟩ ?_
   refine G [5] ?_
   refine cV hC ?_
   refine G [12, 9, 0] ?_
   refine cX ?_ ?_ <;> intro h
   ·cases h
   refine G [3] ?_
   refine zaa (a_shl qk s8) rfl rfl ?_
   refine G [2] ?_
   refine zaa (zgu qz o8) rfl rfl ?_
   refine G [6, 9, 0] ?_
   refine ⟨m - 1, qk, _, zad id _ _ ?_ ?_ rfl, i + 1, qk, hok hq, rfl⟩
   ·refine ⟨⟨?_, rfl⟩, ⟨rfl, rfl⟩, ⟨rfl, rfl⟩, ⟨rfl, rfl⟩, trivial⟩
    rw [hnx]
    show AV.p (qi ((a : Int) * 256 + v)) = AV.p (qi ((a * 256 + v : Nat) : Int))
    first | rfl | (congr 3; omega) | congr 3
   ·exact ⟨⟨rfl, rfl⟩, trivial⟩
 have hge : i = 4 := by simp at h; omega
 clear h
 subst hge
 rw [qaN (by omega)] at hf ⊢
 rw [hg rfl hf]
 refine jdh ?_
 exact yE
theorem refAddr_s (s : ByteArray) (hs : s.size < 4294967281) : Fn prog 157 [qc s] (adR s) [] := by
 have hSp := split1_s s 46 hs
 have hlen := zfP s 46
 have hsz := spl_size s 46
 have hcl := cntB_le s 46
 have hg := @adR_good s
 have hb1 := @adR_bad1 s
 have hb2 := @adR_bad2 s
 generalize adR s = R at *
 generalize spl s 46 = ps at *
 generalize cntB s 46 = N at *
 refine fnI fun w0 A => ?_
 refine G [12] ?_
 refine zbQ (fun n => 11 + 1000 * n) (hSp) rfl rfl func121 rfl rfl qJ qJ rfl rfl rfl ql rfl rfl rfl ?_
 refine G [10] ?_
 refine zae (fun m st => ∃ i : Nat, m + i = N + 1 ∧ (i ≠ 0 → N = 3) ∧ (∀ q ∈ ps.take i, okP q = true) ∧ st = St.of [(4, qe (adN (ps.take i) : Nat)), (5, .row 11), (12, .row 11), (13, qd (N + 1 : Nat)), (14, qd i)] [(11, .row 9 1 (N + 1) (strs ps))]) (N + 1) ?_ ?_
 ·refine ⟨_, zad id _ _ ?_ ?_ rfl, 0, qk, qz, qz, rfl⟩
  ·exact ja5
  ·exact ⟨⟨rfl, rfl⟩, trivial⟩
 rintro m st ⟨i, hi, h30, hf, rfl⟩
 refine G [5] ?_
 refine cX ?_ ?_ <;> intro h
 ·have hlt : i < N + 1 := by simp at h; omega
  clear h
  obtain ⟨p, hp⟩ : ∃ p, ps[i]? = some p := ⟨ps[i], List.getElem?_eq_getElem qk⟩
  have hat := strs_get hp
  have hpm := qaE hp
  have hC := refNum_s p 255 (by have := hsz p hpm; omega)
  have hok := takeP_ok hp hf
  have hnx := ziH hp
  have hlt2 := adN_lt hf qk
  have hsl : (strs ps).length = N + 1 := by rw [strs_len, hlen]
  have hbad := hb2 hpm
  have hval := @okP_val p
  have hng : okP p = true → numR p 255 = .tup [qd (valS p : Nat), qd 0] := fun h => zg6 h
  have hnb : okP p = false → numR p 255 = .tup [qd 0, qd 3] := fun h => zgD h
  generalize strs ps = SP at *
  generalize adN (ps.take i) = a at *
  cases hq : okP p with
  | false =>
   rw [hbad hq]
   rw [hnb hq] at hC
   refine G [6] ?_
   refine zab (zbP U9 rfl qq) rfl rfl ⟨rfl, trivial⟩ ?_
   refine G [5] ?_
   refine cV hC ?_
   refine G [17, 9, 0] ?_
   refine cX ?_ ?_ <;> intro h
   ·refine G [6, 9, 0] ?_
    exact yE
   ·cases h
  | true =>
   have hv := hval hq
   rw [hng hq] at hC
   generalize valS p = v at *
   refine G [6] ?_
   refine zab (zbP U9 rfl qq) rfl rfl ⟨rfl, trivial⟩ ?_
   refine G [5] ?_
   refine cV hC ?_
   refine G [10, 1, 6, 9, 0] ?_
   refine cX ?_ ?_ <;> intro h
   ·rw [hb1 (by simp at h; omega)]
    refine G [6, 9, 0] ?_
    exact yE
   have h3 : N = 3 := by simp at h; omega
   clear h
   subst h3
   have hlt3 : a < 16777216 := by
    have h1 : 256 ^ i ≤ 256 ^ 3 := qbA qw qk
    omega
   clear hlt2
   refine G [13, 9, 0] ?_
   refine ⟨m - 1, qk, _, zad id _ _ ?_ ?_ rfl, i + 1, qk, fun _ => rfl, hok hq, rfl⟩
   ·refine ⟨⟨?_, rfl⟩, ⟨rfl, rfl⟩, ⟨rfl, rfl⟩, ⟨rfl, rfl⟩, ⟨rfl, rfl⟩, trivial⟩
    rw [hnx]
    show AV.p (qi ((a : Int) * 256 + v)) = AV.p (qi ((a * 256 + v : Nat) : Int))
    first | rfl | (congr 3; omega) | congr 3
   ·exact ⟨⟨rfl, rfl⟩, trivial⟩
 have hge : i = N + 1 := by simp at h; omega
 clear h
 subst hge
 have h3 := h30 qk
 rw [← hlen, qa5] at hf ⊢
 rw [hg h3 hf]
 refine jdh ?_
 exact yE
end Go.Proofs.YtlfjpippeeikdaaGreatDoor
namespace Go.Proofs.YtlfjpippeeikdaaGreatDoor
open Go.RowKit Go.Sort
set_option maxHeartbeats 16000000
set_option maxRecDepth 100000
def adA (s : ByteArray) : Int := if adOk s = true then (adN (spl s 46) : Nat) else 0
def adE (s : ByteArray) : Int := if adOk s = true then 0 else 3
theorem adR_eq (s : ByteArray) : adR s = .tup [qe (adA s), qd (adE s)] := by
 unfold adR adA adE
 split <;> rfl
theorem numV_nn (s : ByteArray) (most : Int) : 0 ≤ numV s most := by
 unfold numV
 split <;> omega
def enOk (s : ByteArray) : Prop := 0 ≤ ixB s 58 ∧ adE (cutA s 58) = 0 ∧ numE (cutZ s 58) 65535 = 0 ∧ numV (cutZ s 58) 65535 ≠ 0
instance enOk_dec (s : ByteArray) : Decidable (enOk s) := by unfold enOk; infer_instance
def enE (s : ByteArray) : Int := if enOk s then 0 else 3
def enR (s : ByteArray) : AV := if enOk s then .tup [qe (adA (cutA s 58)), qd (numV (cutZ s 58) 65535), qd 0] else .tup [qe 0, qd 0, qd 3]
theorem end_s (s : ByteArray) (hs : s.size < 4294967281) : Fn Tryz.prog 101 [qc s] (enR s) [] := by
 have hK := cut1_s s 58 qk
 have zA := cutA_size s 58
 have zZ := cutZ_size s 58
 have hP := parse_s (cutA s 58) qk
 have hN := number_s (cutZ s 58) 65535 qk
 have hE : enOk s ↔ 0 ≤ ixB s 58 ∧ adE (cutA s 58) = 0 ∧ numE (cutZ s 58) 65535 = 0 ∧ numV (cutZ s 58) 65535 ≠ 0 := Iff.rfl
 have hR1 : enOk s → enR s = .tup [qe (adA (cutA s 58)), qd (numV (cutZ s 58) 65535), qd 0] := fun h => if_pos h
 have hR2 : ¬ enOk s → enR s = .tup [qe 0, qd 0, qd 3] := fun h => if_neg h
 rw [adR_eq] at hP
 unfold numR at hN
 generalize enR s = R at *
 generalize ixB s 58 = ix at *
 generalize adE (cutA s 58) = e1 at *
 generalize adA (cutA s 58) = a1 at *
 generalize numE (cutZ s 58) 65535 = e2 at *
 generalize numV (cutZ s 58) 65535 = v2 at *
 generalize cutA s 58 = A at *
 generalize cutZ s 58 = Z at *
 refine fnI fun w0 A => ?_
 refine G [9] ?_
 refine cV hK ?_
 refine G [11] ?_
 refine cV hP ?_
 refine G [9] ?_
 refine cV hN ?_
 refine G [14, 2, 3, 2, 3, 2, 1, 9, 0] ?_
 refine cX ?_ ?_ <;> intro h
 ·exact jbT
 ·rw [hR1 (by rw [hE]; simp at h; omega)]
  refine G [10, 9, 0] ?_
  exact yE
theorem zih (s : ByteArray) (hs : s.size < 4294967281) : Fn Tryz.prog 115 [qc s] (enR s) [] := by
 have hI := index1_s s 58
 have zA := cutA_size s 58
 have zZ := cutZ_size s 58
 have hP := refAddr_s (cutA s 58) qk
 have hN := refNum_s (cutZ s 58) 65535 qk
 have hE : enOk s ↔ 0 ≤ ixB s 58 ∧ adE (cutA s 58) = 0 ∧ numE (cutZ s 58) 65535 = 0 ∧ numV (cutZ s 58) 65535 ≠ 0 := Iff.rfl
 have hR1 : enOk s → enR s = .tup [qe (adA (cutA s 58)), qd (numV (cutZ s 58) 65535), qd 0] := fun h => if_pos h
 have hR2 : ¬ enOk s → enR s = .tup [qe 0, qd 0, qd 3] := fun h => if_neg h
 have hA : 0 ≤ ixB s 58 → cutA s 58 = s.extract 0 (ixB s 58).toNat := fun h => if_pos h
 have hZ : 0 ≤ ixB s 58 → cutZ s 58 = s.extract ((ixB s 58).toNat + 1) s.size := fun h => if_pos h
 have hnn := numV_nn (cutZ s 58) 65535
 have hlt := ixB_lt s 58
 rw [adR_eq] at hP
 unfold numR at hN
 generalize enR s = R at *
 generalize ixB s 58 = ix at *
 generalize adE (cutA s 58) = e1 at *
 generalize adA (cutA s 58) = a1 at *
 generalize numE (cutZ s 58) 65535 = e2 at *
 generalize numV (cutZ s 58) 65535 = v2 at *
 generalize cutA s 58 = A at *
 generalize cutZ s 58 = Z at *
 refine fnI fun w0 A => ?_
 refine G [9] ?_
 refine cV hI ?_
 refine jdh ?_
 refine cX ?_ ?_ <;> intro h
 ·exact jbT
 have h0 : 0 ≤ ix := by simp at h; omega
 clear h
 have hA := hA h0
 have hZ := hZ h0
 obtain ⟨n, rfl⟩ := qaU h0
 rw [qaS] at hA hZ
 refine G [5] ?_
 refine zaa (zeE (L := none) (H := (some (_, _))) U9 rfl ⟨qk, (show _ = n by omega)⟩ qk qk hA.symm) rfl rfl ?_
 refine cV hP ?_
 refine G [11] ?_
 refine zaa (zeE (L := (some (_, _))) (H := none) U9 ⟨qk, (show _ = n + 1 by omega)⟩ rfl qk qk hZ.symm) rfl rfl ?_
 refine cV hN ?_
 refine G [14, 2, 3, 2, 1, 9, 0] ?_
 refine cX ?_ ?_ <;> intro h
 ·exact jbT
 ·rw [hR1 (by rw [hE]; simp at h; omega)]
  refine G [10, 9, 0] ?_
  exact yE
def npA (s : ByteArray) : Int := adA (cutA s 47)
def npN (s : ByteArray) : Int := numV (cutZ s 47) 32
def npOk (s : ByteArray) : Prop := 0 ≤ ixB s 47 ∧ adE (cutA s 47) = 0 ∧ numE (cutZ s 47) 32 = 0 ∧ zap (npA s) (npN s) = 0
instance npOk_dec (s : ByteArray) : Decidable (npOk s) := by unfold npOk; infer_instance
end Go.Proofs.YtlfjpippeeikdaaGreatDoor
namespace Go.Proofs.YtlfjpippeeikdaaGreatDoor
open Tryz
open Go.RowKit Go.Sort
set_option maxRecDepth 100000
def DIG : ByteArray := ⟨#[48, 49, 50, 51, 52, 53, 54, 55, 56, 57, 97, 98, 99, 100, 101, 102]⟩
def hx (x : Int) : Int := Lib.indexByte DIG.data.toList x.toNat.toUInt8
theorem ib_s (x : Int) : Fn prog 141 [qc ⟨#[48, 49, 50, 51, 52, 53, 54, 55, 56, 57, 97, 98, 99, 100, 101, 102]⟩, .p (.v (.int .u8 x))] (qd (hx x)) [] :=
 zgH [.string ⟨#[48, 49, 50, 51, 52, 53, 54, 55, 56, 57, 97, 98, 99, 100, 101, 102]⟩, .int .u8 x] rfl fun w => strings_IndexByte _ x w
theorem hx_fin : ∀ n : _root_.Fin 256, -1 ≤ Lib.indexByte DIG.data.toList n.val.toUInt8 ∧ Lib.indexByte DIG.data.toList n.val.toUInt8 ≤ 15 := by decide +kernel
theorem hx_bd (x : Int) : -1 ≤ hx x ∧ hx x ≤ 15 := by
 have h := hx_fin ⟨x.toNat % 256, Nat.mod_lt _ qw⟩
 have e : (x.toNat % 256).toUInt8 = x.toNat.toUInt8 := by
  apply UInt8.toNat_inj.1
  show (UInt8.ofNat _).toNat = (UInt8.ofNat _).toNat
  simp only [UInt8.toNat_ofNat']
  omega
 unfold hx
 simp only [e] at h
 exact h
def hv (s : ByteArray) (i : Nat) : Int := hx (sAt s i)
def zdt (s : ByteArray) (k : Nat) : List Int := (List.range k).map fun j => 16 * hv s (2 * j) + hv s (2 * j + 1)
theorem zgn (s : ByteArray) (k : Nat) : zdt s (k + 1) = zdt s k ++ [16 * hv s (2 * k) + hv s (2 * k + 1)] := by simp [zdt, List.range_succ]
theorem zb7 (s : ByteArray) (k : Nat) : (zdt s k).length = k := by simp [zdt]
def ze0 (s : ByteArray) : Bool := (List.range s.size).all fun i => decide (0 ≤ hv s i)
theorem zdW (s : ByteArray) : ze0 s = true ↔ ∀ i, i < s.size → 0 ≤ hv s i := by simp [ze0]
def hexE (s : ByteArray) : Int := if 2000 < s.size then 1 else if s.size % 2 = 0 then (if ze0 s = true then 0 else 3) else 3
def zhS (s : ByteArray) : AV := if hexE s = 0 then .tup [.row 0, qd 0] else .tup [qj, qd (hexE s)]
def zhT (s : ByteArray) : List (Nat × AObj) := if hexE s = 0 then [(0, .row 5 1 (s.size / 2) (bs (zdt s (s.size / 2))))] else []
theorem zbK {s : ByteArray} {e : Int} (h : hexE s = e) (he : e ≠ 0) : zhS s = .tup [qj, qd e] ∧ zhT s = [] := by
 unfold zhS zhT
 rw [h, if_neg he, if_neg he]; exact ⟨rfl, rfl⟩
theorem zcr {s : ByteArray} (h : hexE s = 0) : zhS s = .tup [.row 0, qd 0] ∧ zhT s = [(0, .row 5 1 (s.size / 2) (bs (zdt s (s.size / 2))))] := by
 unfold zhS zhT
 rw [h, if_pos rfl, if_pos rfl]; exact ⟨rfl, rfl⟩
theorem zf4 (s : ByteArray) : Fn prog 99 [qc s] (zhS s) (zhT s) := by
 refine fnI fun w0 A => ?_
 refine G [12, 9, 0] ?_
 refine cX ?_ ?_ <;> intro h
 ·exact jbV
 have hsz : s.size ≤ 2000 := by have := of_decide_eq_false h; omega
 clear h
 refine G [6] ?_
 refine zaa (a_rem qk (by first | exact IntWalk.rem_in _ _ qk | rfl)) rfl rfl ?_
 refine G [2, 9, 0] ?_
 refine cX ?_ ?_ <;> intro h
 ·exact jbN
 have hev : s.size % 2 = 0 := by simp at h; omega
 clear h
 refine G [5] ?_
 refine jdo ?_
 refine zab (zhB 18 U91 eo5 qk qk qy) rfl rfl ⟨rfl, trivial⟩ ?_
 refine G [8] ?_
 refine zae (fun m st => ∃ k : Nat, m + k = s.size / 2 ∧ (∀ i, i < 2 * k → 0 ≤ hv s i) ∧ st = St.of [(0, qc s), (4, .row 4), (5, qd (2 * k))] [(4, .row 5 1 k (bs (zdt s k)))]) (s.size / 2) ?_ ?_
 ·refine ⟨_, zad (fun _ => 18) _ _ ?_ ?_ rfl, 0, qk, fun i hi => by omega, rfl⟩
  ·exact ja5
  ·exact ⟨⟨rfl, rfl⟩, trivial⟩
 rintro m st ⟨k, hk, hg, rfl⟩
 refine jdh ?_
 refine cX ?_ ?_ <;> intro h
 ·have hlt : 2 * k < s.size := by simp at h; omega
  clear h
  have g1 := zid (s := s) (i := 2 * k) hlt
  have g2 := zid (s := s) (i := 2 * k + 1) qk
  refine G [7] ?_
  refine zaa (zct U9 qk (by exact g1)) rfl rfl ?_
  refine cV (ib_s _) ?_
  refine G [3] ?_
  refine zaa (zct U9 qk (by exact g2)) rfl rfl ?_
  refine cV (ib_s _) ?_
  refine G [11, 2, 1, 9, 0] ?_
  have b1 : -1 ≤ hv s (2 * k) ∧ hv s (2 * k) ≤ 15 := hx_bd _
  have b2 : -1 ≤ hv s (2 * k + 1) ∧ hv s (2 * k + 1) ≤ 15 := hx_bd _
  refine cX ?_ ?_ <;> intro h
  ·have h2 : hv s (2 * k) < 0 ∨ hv s (2 * k + 1) < 0 := by simpa [hv] using h
   refine jcV ?_
   have hb : ¬ ze0 s = true := fun hh => by
    have h3 := (zdW s).1 hh
    have h4 := h3 (2 * k) hlt
    have h5 := h3 (2 * k + 1) qk
    omega
   exact jcc
  ·have h2 : 0 ≤ hv s (2 * k) ∧ 0 ≤ hv s (2 * k + 1) := by simpa [hv] using h
   change 0 ≤ hx (sAt s (2 * k)) ∧ 0 ≤ hx (sAt s (2 * k + 1)) at h2
   change -1 ≤ hx (sAt s (2 * k)) ∧ hx (sAt s (2 * k)) ≤ 15 at b1
   change -1 ≤ hx (sAt s (2 * k + 1)) ∧ hx (sAt s (2 * k + 1)) ≤ 15 at b2
   refine G [8] ?_
   refine jdZ (zai 46 U91 sz5 zc5 (qaA rfl) (qaA rfl) rfl rfl rfl rfl (qaA rfl)) ?_
   refine zab (zaq 47 U91 eo5 (zaU) qy qk rfl rfl) rfl rfl ⟨rfl, rfl, rfl, trivial⟩ ?_
   refine jcS ?_
   refine ⟨m - 1, qk, _, zad (fun _ => 47) _ _ ?_ ?_ rfl, k + 1, qk, fun i hi => ?_, rfl⟩
   ·exact ja5
   ·rw [zgn]; simp only [bs, qa4]
    exact ⟨⟨rfl, rfl⟩, trivial⟩
   ·by_cases e1 : i = 2 * k
    ·subst e1; exact h2.1
    ·by_cases e2 : i = 2 * k + 1
     ·subst e2; exact h2.2
     ·exact hg i qk
 ·have hge : s.size ≤ 2 * k := by simp at h; omega
  clear h
  have hb : ze0 s = true := (zdW s).2 fun i hi => hg i qk
  obtain ⟨e1, e2⟩ := zcr (s := s) qaf
  obtain rfl : k = s.size / 2 := qk
  refine G [8] ?_
  rw [e1, e2]
  refine yT (fun _ => 4) ?_ ?_
  ·exact rfl
  ·exact ⟨⟨rfl, rfl⟩, trivial⟩
def keyE (s : ByteArray) : Int := if s.size = 64 then hexE s else 1
theorem zbW (s : ByteArray) : Fn prog 66 [qc s] (qd (keyE s)) [] := by
 refine fnI fun w0 A => ?_
 refine G [11, 9, 0] ?_
 refine cX ?_ ?_ <;> intro h
 ·exact jcl
 ·have h2 : s.size = 64 := by simp at h; omega
  rw [show keyE s = hexE s by unfold keyE; rw [if_pos h2]]
  by_cases he : hexE s = 0
  ·obtain ⟨e1, e2⟩ := zcr he
   have hc := zf4 s
   rw [e1, e2] at hc
   refine G [4] ?_
   refine cK hc ?_
   refine G [12] ?_
   rw [he]
   exact yE
  ·obtain ⟨e1, e2⟩ := zbK (e := hexE s) rfl he
   have hc := zf4 s
   rw [e1, e2] at hc
   refine G [4] ?_
   refine cK hc ?_
   refine G [12, 9, 0] ?_
   exact yE
def zbn (s : ByteArray) (i : Nat) : List Int := zdt s (i / 2) ++ (if i % 2 = 1 then [hv s (i - 1)] else [])
theorem zhj (s : ByteArray) (i : Nat) : (zbn s i).length = (i + 1) / 2 := by
 unfold zbn
 rw [qaC, zb7]
 split <;> simp <;> omega
theorem hexPart_even (s : ByteArray) (i : Nat) (h : i % 2 = 0) : (zbn s i ++ [0]).set (i / 2) (hv s i) = zbn s (i + 1) := by
 have h1 : ¬ i % 2 = 1 := qk
 have h2 : (i + 1) % 2 = 1 := qk
 have h3 : (i + 1) / 2 = i / 2 := qk
 unfold zbn
 rw [if_neg h1, if_pos h2, h3, qaV]
 rw [List.set_append_right _ _ (by rw [zb7]; omega), zb7]
 simp
theorem hexPart_odd (s : ByteArray) (i : Nat) (h : i % 2 = 1) : (zbn s i).set (i / 2) (hv s (i - 1) * 16 + hv s i) = zbn s (i + 1) := by
 have h2 : ¬ (i + 1) % 2 = 1 := qk
 have h3 : (i + 1) / 2 = i / 2 + 1 := qk
 unfold zbn
 rw [if_pos h, if_neg h2, h3, qaV, zgn]
 rw [List.set_append_right _ _ (by rw [zb7]; omega), zb7]
 have e1 : 2 * (i / 2) = i - 1 := qk
 have e2 : 2 * (i / 2) + 1 = i := qk
 rw [e2, e1, Int.mul_comm]
 simp
theorem hexPart_getE (s : ByteArray) (i : Nat) (h : i % 2 = 0) : (zbn s i ++ [0])[i / 2]? = some 0 := by
 have hl := zhj s i
 rw [qbo (by omega)]
 have : i / 2 - (zbn s i).length = 0 := qk
 rw [this]; rfl
theorem hexPart_getO (s : ByteArray) (i : Nat) (h : i % 2 = 1) : (zbn s i)[i / 2]? = some (hv s (i - 1)) := by
 unfold zbn
 rw [if_pos h, qbo (by rw [zb7]; omega), zb7]
 simp
theorem hexPart_full (s : ByteArray) (h : s.size % 2 = 0) : zbn s s.size = zdt s (s.size / 2) := by
 unfold zbn
 rw [if_neg (by omega), qaV]
theorem zfU (s : ByteArray) : Fn prog 113 [qc s] (zhS s) (zhT s) := by
 refine fnI fun w0 A => ?_
 refine G [12, 9, 0] ?_
 refine cX ?_ ?_ <;> intro h
 ·exact jbV
 have hsz : s.size ≤ 2000 := by simp at h; omega
 clear h
 refine G [6] ?_
 refine zaa (zgu qz (zhi _ qk)) rfl rfl ?_
 refine G [2, 9, 0] ?_
 refine cX ?_ ?_ <;> intro h
 ·exact jbN
 have hev : s.size % 2 = 0 := by simp at h; omega
 clear h
 have hml : s.size ≤ maxLen := by simp only [maxLen]; omega
 refine G [9] ?_
 refine zab (a_s2b 16 U9 U91 U5 (by first | omega | (simp only [maxLen]; omega)) rfl rfl) rfl rfl ⟨rfl, trivial⟩ ?_
 refine G [4] ?_
 refine zaH (zbY 4 4 5 1 rfl rfl) ?_
 refine zae (fun m st => ∃ k : Nat, m + k = s.size ∧ (∀ i, i < k → 0 ≤ hv s i) ∧ st = St.of [(4, .row 4), (16, .row 16), (17, qd s.size), (18, qd k)] [(4, .row 5 1 ((k + 1) / 2) (bs (zbn s k))), (16, .row 5 1 s.size (bs (sb s)))]) s.size ?_ ?_
 ·refine ⟨_, zad id _ _ ?_ ?_ rfl, 0, qk, fun i hi => by omega, rfl⟩
  ·exact ja5
  ·exact ⟨⟨rfl, rfl⟩, ⟨rfl, rfl⟩, trivial⟩
 rintro m st ⟨k, hk, hg, rfl⟩
 refine G [5] ?_
 refine cX ?_ ?_ <;> intro h
 ·have hlt : k < s.size := by simp at h; omega
  clear h
  have g1 := bs_at (sb_at hlt)
  refine G [7] ?_
  refine zab (zbP U5 rfl qq) rfl rfl ⟨rfl, trivial⟩ ?_
  refine G [6] ?_
  refine cV (ib_s _) ?_
  refine G [4] ?_
  have b1 : -1 ≤ hx (sAt s k) ∧ hx (sAt s k) ≤ 15 := hx_bd _
  refine G [4, 9, 0] ?_
  refine cX ?_ ?_ <;> intro h
  ·have h2 : hv s k < 0 := by simpa [hv] using h
   refine jcV ?_
   have hb : ¬ ze0 s = true := fun hh => by
    have h3 := (zdW s).1 hh k hlt
    omega
   exact jcc
  have h2 : 0 ≤ hx (sAt s k) := by simpa using h
  clear h
  have hpl := zhj s k
  refine G [5] ?_
  refine zaa (zgu qz (zhi _ qk)) rfl rfl ?_
  refine G [2, 9, 0] ?_
  refine cX ?_ ?_ <;> intro h
  ·have h3 : k % 2 = 0 := by simp at h; omega
   clear h
   have hn : (k + 1) / 2 + 1 = (k + 2) / 2 := qk
   skip
   refine G [2] ?_
   refine jdZ (zai 31 U91 sz5 zc5 (qaA rfl) (qaA rfl) rfl rfl rfl rfl (qaA rfl)) ?_
   refine zab (zaq 32 U91 eo5 (zaU) qy qk hn rfl) rfl rfl ⟨rfl, rfl, rfl, trivial⟩ ?_
   refine G [2, 9, 0] ?_
   have g2 : (bs (zbn s k) ++ [PV.v (.int .u8 0)])[k / 2]? = some (.v (.int .u8 0)) := by rw [bs_push]; exact bs_at (hexPart_getE s k h3)
   have q1 : (bs (zbn s k) ++ [PV.v (.int .u8 0)]).length = (k + 2) / 2 := by rw [qaC, bs_length, hpl]; simp; omega
   have q2 : setR (bs (zbn s k) ++ [PV.v (.int .u8 0)]) (k / 2) [.v (.int .u8 (0 * 16 + hx (sAt s k)))] = bs (zbn s (k + 1)) := by
    rw [bs_push, bs_set (by rw [bs_push, bs_length] at q1; omega), Int.zero_mul, Int.zero_add]
    exact congrArg bs (hexPart_even s k h3)
   refine G [3] ?_
   refine jdo ?_
   refine G [2] ?_
   refine jdo ?_
   refine zab (zaw U91 sz5 qk qk (show _ = k / 2 by omega)) rfl rfl ⟨rfl, trivial⟩ ?_
   refine jdZ (zbP U5 rfl g2) ?_
   refine G [4] ?_
   refine zab (zaw U91 sz5 qk qk (show _ = k / 2 by omega)) rfl rfl ⟨rfl, trivial⟩ ?_
   refine zab (zbX (Y := .p _) sz5 rfl rfl (by first | rfl | omega) qB q2) rfl rfl ⟨rfl, trivial⟩ ?_
   refine jcQ ?_
   refine ⟨m - 1, qk, _, zad (fun o => bif Nat.beq o 4 then 32 else o) _ _ ?_ ?_ rfl, k + 1, qk, fun i hi => ?_, rfl⟩
   ·exact ja5
   ·exact ⟨⟨by rw [show (k + 1 + 1) / 2 = (k + 2) / 2 from rfl]; rfl, rfl⟩, ⟨rfl, rfl⟩, trivial⟩
   ·by_cases e1 : i = k
    ·subst e1; exact h2
    ·exact hg i qk
  ·have h3 : k % 2 = 1 := by simp at h; omega
   clear h
   have g2 := bs_at (hexPart_getO s k h3)
   have b2 : -1 ≤ hv s (k - 1) ∧ hv s (k - 1) ≤ 15 := hx_bd _
   have b3 := hg (k - 1) qk
   have q1 : (bs (zbn s k)).length = (k + 1) / 2 := by rw [bs_length, hpl]
   have q2 : setR (bs (zbn s k)) (k / 2) [.v (.int .u8 (hv s (k - 1) * 16 + hx (sAt s k)))] = bs (zbn s (k + 1)) := by
    rw [bs_set (by omega)]
    exact congrArg bs (hexPart_odd s k h3)
   refine G [4] ?_
   refine jdo ?_
   refine G [2] ?_
   refine jdo ?_
   refine zab (zaw U91 sz5 qk qk (show _ = k / 2 by omega)) rfl rfl ⟨rfl, trivial⟩ ?_
   refine jdZ (zbP U5 rfl g2) ?_
   refine G [4] ?_
   refine zab (zaw U91 sz5 qk qk (show _ = k / 2 by omega)) rfl rfl ⟨rfl, trivial⟩ ?_
   refine zab (zbX (Y := .p _) sz5 rfl rfl (by first | rfl | omega) qB q2) rfl rfl ⟨rfl, trivial⟩ ?_
   refine jcQ ?_
   refine ⟨m - 1, qk, _, zad id _ _ ?_ ?_ rfl, k + 1, qk, fun i hi => ?_, rfl⟩
   ·exact ja5
   ·exact ⟨⟨by rw [show (k + 1 + 1) / 2 = (k + 1) / 2 by omega]; rfl, rfl⟩, ⟨rfl, rfl⟩, trivial⟩
   ·by_cases e1 : i = k
    ·subst e1; exact h2
    ·exact hg i qk
 ·have hge : s.size ≤ k := by simp at h; omega
  clear h
  have hb : ze0 s = true := (zdW s).2 fun i hi => hg i qk
  obtain ⟨e1, e2⟩ := zcr (s := s) qaf
  obtain rfl : k = s.size := qk
  refine G [8] ?_
  rw [e1, e2]
  refine yT (fun _ => 4) ?_ ?_
  ·exact rfl
  ·rw [← hexPart_full s hev, ← show (s.size + 1) / 2 = s.size / 2 by omega]
   exact ⟨⟨rfl, rfl⟩, trivial⟩
theorem zbJ (s : ByteArray) : Fn prog 82 [qc s] (qd (keyE s)) [] := by
 refine fnI fun w0 A => ?_
 refine G [11, 9, 0] ?_
 refine cX ?_ ?_ <;> intro h
 ·exact jcl
 ·have h2 : s.size = 64 := by simp at h; omega
  have hk : hexE s = 0 ∨ hexE s = 3 := by
   unfold hexE
   rw [if_neg (by omega), if_pos (by omega)]
   split
   ·exact .inl rfl
   ·exact .inr rfl
  rw [show keyE s = hexE s by unfold keyE; rw [if_pos h2]]
  rcases hk with he | he
  ·obtain ⟨e1, e2⟩ := zcr he
   have hc := zfU s
   rw [e1, e2] at hc
   refine G [5] ?_
   refine cK hc ?_
   refine G [11, 9, 0] ?_
   refine cX ?_ ?_ <;> intro h
   ·cases h
   refine G [6] ?_
   rw [he]
   exact yE
  ·obtain ⟨e1, e2⟩ := zbK (s := s) he qk
   have hc := zfU s
   rw [e1, e2] at hc
   refine G [5] ?_
   refine cK hc ?_
   refine G [11, 9, 0] ?_
   refine cX ?_ ?_ <;> intro h
   ·refine jcQ ?_
    rw [he]
    exact yE
   ·cases h
end Go.Proofs.YtlfjpippeeikdaaGreatDoor
