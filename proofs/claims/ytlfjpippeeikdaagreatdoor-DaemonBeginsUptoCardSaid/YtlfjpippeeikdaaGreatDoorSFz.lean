/- Used. -/
import Derived.Test.YtlfjpippeeikdaaGreatDoorSJn
set_option maxRecDepth 100000
set_option maxHeartbeats 16000000
set_option linter.all false
namespace Go.Proofs.YtlfjpippeeikdaaGreatDoor
open Tryz
open Go.RowKit
open Go.Sort
def adA (s : ByteArray) : Int := if adOk s = true then (adN (spl s 46) : Nat) else 0
def adE (s : ByteArray) : Int := if adOk s = true then 0 else 3
theorem adR_eq (s : ByteArray) : adR s = .tup [qe (adA s), qd (adE s)] := by
 unfold adR adA adE
 split <;> rfl
theorem numV_nn (s : ByteArray) (most : Int) : 0 ≤ numV s most := by
 unfold numV
 split <;> omega
def enOk (s : ByteArray) : Prop := 0 ≤ ixB s 58 ∧ adE (cutA s 58) = 0 ∧ numE (cutZ s 58) 65535 = 0 ∧ numV (cutZ s 58) 65535 ≠ 0
instance enOk_dec (s : ByteArray) : Decidable (enOk s) := by unfold enOk; infer_instance
def enE (s : ByteArray) : Int := if enOk s then 0 else 3
def enR (s : ByteArray) : AV := if enOk s then .tup [qe (adA (cutA s 58)), qd (numV (cutZ s 58) 65535), qd 0] else .tup [qe 0, qd 0, qd 3]
theorem end_s (s : ByteArray) (hs : s.size < 4294967281) : Fn prog 101 [qc s] (enR s) [] := by
 have hK := cut1_s s 58 qp
 have zA := zdU s 58
 have zZ := zdo s 58
 have hP := parse_s (cutA s 58) qp
 have hN := ziU (cutZ s 58) 65535 qp
 have hE : enOk s ↔ 0 ≤ ixB s 58 ∧ adE (cutA s 58) = 0 ∧ numE (cutZ s 58) 65535 = 0 ∧ numV (cutZ s 58) 65535 ≠ 0 := Iff.rfl
 have hR1 : enOk s → enR s = .tup [qe (adA (cutA s 58)), qd (numV (cutZ s 58) 65535), qd 0] := fun h => if_pos h
 have hR2 : ¬ enOk s → enR s = .tup [qe 0, qd 0, qd 3] := fun h => if_neg h
 rw [adR_eq] at hP
 unfold numR at hN
 generalize enR s = R at *
 generalize ixB s 58 = ix at *
 generalize adE (cutA s 58) = e1 at *
 generalize adA (cutA s 58) = a1 at *
 generalize numE (cutZ s 58) 65535 = e2 at *
 generalize numV (cutZ s 58) 65535 = v2 at *
 generalize cutA s 58 = A at *
 generalize cutZ s 58 = Z at *
 refine fnI fun w0 A => ?_
 refine G [9] ?_
 refine cV hK ?_
 refine G [11] ?_
 refine cV hP ?_
 refine G [9] ?_
 refine cV hN ?_
 refine G [14, 2, 3, 2, 3, 2, 1, 9, 0] ?_
 refine cX ?_ ?_ <;> intro h
 ·exact jbg
 ·rw [hR1 (by rw [hE]; simp at h; omega)]
  exact jcz
theorem ziO (s : ByteArray) (hs : s.size < 4294967281) : Fn prog 115 [qc s] (enR s) [] := by
 have hI := zi5 s 58
 have zA := zdU s 58
 have zZ := zdo s 58
 have hP := refAddr_s (cutA s 58) qp
 have hN := zg2 (cutZ s 58) 65535 qp
 have hE : enOk s ↔ 0 ≤ ixB s 58 ∧ adE (cutA s 58) = 0 ∧ numE (cutZ s 58) 65535 = 0 ∧ numV (cutZ s 58) 65535 ≠ 0 := Iff.rfl
 have hR1 : enOk s → enR s = .tup [qe (adA (cutA s 58)), qd (numV (cutZ s 58) 65535), qd 0] := fun h => if_pos h
 have hR2 : ¬ enOk s → enR s = .tup [qe 0, qd 0, qd 3] := fun h => if_neg h
 have hA : 0 ≤ ixB s 58 → cutA s 58 = s.extract 0 (ixB s 58).toNat := fun h => if_pos h
 have hZ : 0 ≤ ixB s 58 → cutZ s 58 = s.extract ((ixB s 58).toNat + 1) s.size := fun h => if_pos h
 have hnn := numV_nn (cutZ s 58) 65535
 have hlt := ixB_lt s 58
 rw [adR_eq] at hP
 unfold numR at hN
 generalize enR s = R at *
 generalize ixB s 58 = ix at *
 generalize adE (cutA s 58) = e1 at *
 generalize adA (cutA s 58) = a1 at *
 generalize numE (cutZ s 58) 65535 = e2 at *
 generalize numV (cutZ s 58) 65535 = v2 at *
 generalize cutA s 58 = A at *
 generalize cutZ s 58 = Z at *
 refine fnI fun w0 A => ?_
 refine G [9] ?_
 refine cV hI ?_
 refine jdQ ?_
 refine cX ?_ ?_ <;> intro h
 ·exact jbg
 have h0 : 0 ≤ ix := qu
 clear h
 have hA := hA h0
 have hZ := hZ h0
 obtain ⟨n, rfl⟩ := qbw h0
 rw [qbx] at hA hZ
 refine G [5] ?_
 refine zaa (zci (L := none) (H := (some (_, _))) U9 rfl ⟨qp, (show _ = n by omega)⟩ qp qp hA.symm) rfl rfl ?_
 refine cV hP ?_
 refine G [11] ?_
 refine zaa (zci (L := (some (_, _))) (H := none) U9 ⟨qp, (show _ = n + 1 by omega)⟩ rfl qp qp hZ.symm) rfl rfl ?_
 refine cV hN ?_
 refine G [14, 2, 3, 2, 1, 9, 0] ?_
 refine cX ?_ ?_ <;> intro h
 ·exact jbg
 ·rw [hR1 (by rw [hE]; simp at h; omega)]
  exact jcz
def adP (a : Int) (k : Nat) : Int := a / 2 ^ (24 - 8 * k) % 256
def DOT : ByteArray := ⟨#[46]⟩
def adTL (a : Int) : List ByteArray := [itoS (adP a 0), itoS (adP a 1), itoS (adP a 2), itoS (adP a 3)]
def adT (a : Int) : ByteArray := zi4 (adTL a) DOT
theorem zgS (a : Int) (k : Nat) : 0 ≤ adP a k ∧ adP a k < 256 := by unfold adP; omega
theorem adTL_at (a : Int) {k : Nat} (hk : k < 4) : (adTL a)[k]? = some (itoS (adP a k)) := by
 match k, hk with
 | 0, _ => rfl
 | 1, _ => rfl
 | 2, _ => rfl
 | 3, _ => rfl
theorem adT_eq (a : Int) : adT a = itoS (adP a 0) ++ DOT ++ itoS (adP a 1) ++ DOT ++ itoS (adP a 2) ++ DOT ++ itoS (adP a 3) := by
 unfold adT adTL
 generalize itoS (adP a 0) = x0
 generalize itoS (adP a 1) = x1
 generalize itoS (adP a 2) = x2
 generalize itoS (adP a 3) = x3
 have e3 := zgp [x0, x1, x2] DOT x3 qC
 have e2 := zgp [x0, x1] DOT x2 qC
 have e1 := zgp [x0] DOT x1 qC
 simp only [qbG, qbK] at e1 e2 e3
 rw [e3, e2, e1, joinS_one]
theorem zjo (a : Int) : (adT a).size ≤ 23 := by
 rw [adT_eq]
 simp only [zdx]
 have h := fun k => zfN (adP a k) (zgS a k).1 qa2
 have h0 := h 0
 have h1 := h 1
 have h2 := h 2
 have h3 := h 3
 have hd : DOT.size = 1 := rfl
 omega
theorem adSh (a : Int) (h0 : 0 ≤ a) (h1 : a < 4294967296) {k : Nat} (hk : k < 4) : bits .and .u32 (a.fdiv (2 ^ min (24 - 8 * (k : Int)).toNat IntKind.u32.bits)) 255 = adP a k := by
 have key : ∀ q : Int, 0 ≤ q → q < 4294967296 → bits .and .u32 q 255 = q % 256 := fun q q0 q1 => zeY q 8 q0 q1 qp
 match k, hk with
 | 0, _ =>
  rw [show (2 : Int) ^ min (24 - 8 * ((0 : Nat) : Int)).toNat IntKind.u32.bits = 16777216 from rfl, qbP _ (by omega), key _ (by omega) (by omega)]
  rfl
 | 1, _ =>
  rw [show (2 : Int) ^ min (24 - 8 * ((1 : Nat) : Int)).toNat IntKind.u32.bits = 65536 from rfl, qbP _ (by omega), key _ (by omega) (by omega)]
  rfl
 | 2, _ =>
  rw [show (2 : Int) ^ min (24 - 8 * ((2 : Nat) : Int)).toNat IntKind.u32.bits = 256 from rfl, qbP _ (by omega), key _ (by omega) (by omega)]
  rfl
 | 3, _ =>
  rw [show (2 : Int) ^ min (24 - 8 * ((3 : Nat) : Int)).toNat IntKind.u32.bits = 1 from rfl, qbP _ (by omega), key _ (by omega) (by omega)]
  rfl
theorem adText_s (a : Int) (h0 : 0 ≤ a) (h1 : a < 4294967296) : Fn prog 207 [.p (.v (.int .u32 a))] (.p (.v (.string (adT a)))) [] := by
 refine fnI fun w0 A => ?_
 refine G [13, 9, 0] ?_
 refine zaK (zbF 3 100 9 1 rfl rfl) ?_
 refine zaw (zac (fun m st => ∃ k : Nat, m + k = 4 ∧ st = St.of [(0, .p (.v (.int .u32 a))), (3, .row 100), (4, .p (.v (.int .i64 (24 - 8 * (k : Int)))))] [(100, .row 9 1 k (strs ((adTL a).take k)))]) 4 ?_ ?_)
 ·refine jec ?_ ?_
  ·exact qt
  ·exact ja3
 rintro m st ⟨k, hk, rfl⟩
 refine jdI ?_
 refine cX ?_ ?_ <;> intro h
 ·have hlt : k < 4 := qu
  clear h
  have hsh := adSh a h0 h1 hlt
  obtain ⟨p0, p1⟩ := zgS a k
  have hat := adTL_at a hlt
  have hI := zfM (adP a k) qp qp
  have hll : (adTL a).length = 4 := rfl
  have hnx : strs ((adTL a).take k) ++ [.v (.string (itoS (adP a k)))] = strs ((adTL a).take (k + 1)) := by
   obtain ⟨q1, q2⟩ := qbl.1 hat
   rw [qbn q1, q2, strs_push]
  have htl : ((adTL a).take k).length = k := by rw [List.length_take, hll]; omega
  generalize itoS (adP a k) = T at *
  generalize adP a k = p at *
  generalize (adTL a).take k = L0 at *
  have hsl : (strs L0).length = k := by rw [zft, htl]
  refine G [7] ?_
  refine zaa (a_shr qp rfl) rfl rfl ?_
  refine zaa (zf4 qC hsh) rfl rfl ?_
  refine zaa (ziF U80 U3 qT) rfl rfl ?_
  refine cK hI ?_
  refine jfc (zag 16 U168 sz9 zc9 (qbe rfl) (qbe rfl) rfl rfl rfl rfl (qbe rfl)) ?_
  refine zab (zaq 17 U168 eo9 (zaS) qB qp (show _ = k + 1 by omega) hnx) rfl rfl ⟨rfl, rfl, rfl, trivial⟩ ?_
  refine jdv ?_
  refine ⟨m - 1, qp, _, zae (fun _ => 17) _ _ ?_ ?_ rfl, k + 1, qp, rfl⟩
  ·refine ⟨⟨rfl, rfl⟩, ⟨rfl, rfl⟩, ⟨?_, rfl⟩, trivial⟩
   show AV.p (.v (.int .i64 (24 - 8 * (k : Int) - 8))) = AV.p (.v (.int .i64 (24 - 8 * ((k + 1 : Nat) : Int))))
   congr 3; omega
  ·exact ja3
 have hge : k = 4 := qu
 clear h
 subst hge
 rw [show (adTL a).take 4 = adTL a from rfl]
 have hz := zjo a
 have hJ := join_s (adTL a) DOT (by show 4 ≤ _; decide) (by show (adT a).size ≤ _; omega)
 change Fn prog 219 [ql 4 1 (strs (adTL a)), .p (.v (.string ⟨#[46]⟩))] (.p (.v (.string (adT a)))) [] at hJ
 generalize adTL a = L at *
 generalize adT a = T at *
 refine G [4] ?_
 refine zbG (fun n => 19 + 1000 * n) (hJ) rfl rfl func219 rfl rfl qJ qJ rfl rfl rfl qq rfl rfl rfl ?_
 exact jbm
theorem refAdText_s (a : Int) (h0 : 0 ≤ a) (h1 : a < 4294967296) : Fn prog 202 [qe a] (qc (adT a)) [] := by
 have hI := fun k => zfM (adP a k) (by have := (zgS a k).1; omega) qa2
 have hz := fun k => (zfN (adP a k) (zgS a k).1 qa2).2
 have i0 := hI 0
 have i1 := hI 1
 have i2 := hI 2
 have i3 := hI 3
 have z0 := hz 0
 have z1 := hz 1
 have z2 := hz 2
 have z3 := hz 3
 have b0 : a.fdiv (2 ^ min (24 : Int).toNat IntKind.u32.bits) = adP a 0 := by
  rw [show (2 : Int) ^ min (24 : Int).toNat IntKind.u32.bits = 16777216 from rfl, qbP _ (by omega)]
  show _ = a / 16777216 % 256
  omega
 have b1 : a.fdiv (2 ^ min (16 : Int).toNat IntKind.u32.bits) = a / 65536 := by
  rw [show (2 : Int) ^ min (16 : Int).toNat IntKind.u32.bits = 65536 from rfl, qbP _ (by omega)]
 have b2 : a.fdiv (2 ^ min (8 : Int).toNat IntKind.u32.bits) = a / 256 := by
  rw [show (2 : Int) ^ min (8 : Int).toNat IntKind.u32.bits = 256 from rfl, qbP _ (by omega)]
 have cv0 : IntKind.i64.wrap (adP a 0) = adP a 0 := qbM _ (by have := zgS a 0; omega)
 have cv1 : IntKind.i64.wrap (a / 65536 % 256) = adP a 1 := qbM _ qp
 have cv2 : IntKind.i64.wrap (a / 256 % 256) = adP a 2 := qbM _ qp
 have cv3 : IntKind.i64.wrap (a % 256) = adP a 3 := by
  rw [qbM _ (by omega)]
  show _ = a / 1 % 256
  omega
 rw [adT_eq]
 generalize adP a 0 = p0 at *
 generalize adP a 1 = p1 at *
 generalize adP a 2 = p2 at *
 generalize adP a 3 = p3 at *
 generalize itoS p0 = t0 at *
 generalize itoS p1 = t1 at *
 generalize itoS p2 = t2 at *
 generalize itoS p3 = t3 at *
 have hd : DOT.size = 1 := rfl
 obtain ⟨u0, e0⟩ : ∃ u, t0 ++ DOT = u := ⟨_, rfl⟩
 have y0 : u0.size ≤ 6 := by rw [← e0, zdx]; omega
 obtain ⟨u1, e1⟩ : ∃ u, u0 ++ t1 = u := ⟨_, rfl⟩
 have y1 : u1.size ≤ 11 := by rw [← e1, zdx]; omega
 obtain ⟨u2, e2⟩ : ∃ u, u1 ++ DOT = u := ⟨_, rfl⟩
 have y2 : u2.size ≤ 12 := by rw [← e2, zdx]; omega
 obtain ⟨u3, e3⟩ : ∃ u, u2 ++ t2 = u := ⟨_, rfl⟩
 have y3 : u3.size ≤ 17 := by rw [← e3, zdx]; omega
 obtain ⟨u4, e4⟩ : ∃ u, u3 ++ DOT = u := ⟨_, rfl⟩
 have y4 : u4.size ≤ 18 := by rw [← e4, zdx]; omega
 rw [e0, e1, e2, e3, e4]
 have ed : (⟨#[46]⟩ : ByteArray) = DOT := rfl
 have hd1 : (⟨#[46]⟩ : ByteArray).size = 1 := rfl
 refine fnI fun w0 A => ?_
 refine G [7] ?_
 refine zaa (a_shr qp b0) rfl rfl ?_
 refine jfb (ziF U80 U3 cv0) ?_
 refine cK i0 ?_
 refine zaa (zh5 qp e0) rfl rfl ?_
 refine jdJ ?_
 refine zaa (a_shr qp b1) rfl rfl ?_
 refine jep ?_
 refine jfb (ziF U80 U3 cv1) ?_
 refine cK i1 ?_
 refine zaa (zh5 qp e1) rfl rfl ?_
 refine zaa (zh5 qp e2) rfl rfl ?_
 refine jdJ ?_
 refine zaa (a_shr qp b2) rfl rfl ?_
 refine jep ?_
 refine jfb (ziF U80 U3 cv2) ?_
 refine cK i2 ?_
 refine zaa (zh5 qp e3) rfl rfl ?_
 refine zaa (zh5 qp e4) rfl rfl ?_
 refine jdJ ?_
 refine jep ?_
 refine jfb (ziF U80 U3 cv3) ?_
 refine cK i3 ?_
 refine zaa (zh5 qp rfl) rfl rfl ?_
 exact jbm
theorem adA_in (s : ByteArray) : 0 ≤ adA s ∧ adA s < 4294967296 := by
 unfold adA
 split
 ·rename_i h
  unfold adOk at h
  simp only [qbv, decide_eq_true_eq, qbU] at h
  have hl := zcJ s 46
  have h2 := adN_lt (l := spl s 46) (i := 4) (fun q hq => h.2 q (qbT hq)) qp
  rw [qbr (by omega)] at h2
  omega
 ·omega
def SLASH : ByteArray := ⟨#[47]⟩
def ntT (a n : Int) : ByteArray := adT a ++ SLASH ++ itoS n
def ntX (a n : Int) : ByteArray := if zan a n = 0 then ntT a n else ⟨#[]⟩
def ntR (a n : Int) : AV := .tup [qc (ntX a n), qd (zan a n)]
theorem zfH {a n : Int} (h : zan a n = 0) : 0 ≤ n ∧ n ≤ 32 := ⟨(zbL h).1, (zbL h).2.1⟩
theorem ntText_s (a n : Int) (h2 : 0 ≤ a) (h3 : a < 4294967296) : Fn prog 189 [.agg (netA a n)] (ntR a n) [] := by
 have hC := zcp a n h2 h3
 have hT := adText_s a h2 h3
 exact jaL
theorem refNtText_s (a n : Int) (h2 : 0 ≤ a) (h3 : a < 4294967296) : Fn prog 178 [.agg (netA a n)] (ntR a n) [] := by
 have hC := zcH a n h2 h3
 have hT := refAdText_s a h2 h3
 exact jaL
def npA (s : ByteArray) : Int := adA (cutA s 47)
def npN (s : ByteArray) : Int := numV (cutZ s 47) 32
def npOk (s : ByteArray) : Prop := 0 ≤ ixB s 47 ∧ adE (cutA s 47) = 0 ∧ numE (cutZ s 47) 32 = 0 ∧ zan (npA s) (npN s) = 0
instance npOk_dec (s : ByteArray) : Decidable (npOk s) := by unfold npOk; infer_instance
def npR (s : ByteArray) : AV := if npOk s then .tup [.agg (netA (npA s) (npN s)), qd 0] else .tup [.agg (netA 0 0), qd 3]
theorem ntParse_s (s : ByteArray) (hs : s.size < 4294967281) : Fn prog 126 [qc s] (npR s) [] := by
 have hK := cut1_s s 47 qp
 have zA := zdU s 47
 have zZ := zdo s 47
 have hP := parse_s (cutA s 47) qp
 have hN := ziU (cutZ s 47) 32 qp
 have hE : npOk s ↔ 0 ≤ ixB s 47 ∧ adE (cutA s 47) = 0 ∧ numE (cutZ s 47) 32 = 0 ∧ zan (npA s) (npN s) = 0 := Iff.rfl
 have hR1 : npOk s → npR s = .tup [.agg (netA (npA s) (npN s)), qd 0] := fun h => if_pos h
 have hR2 : ¬ npOk s → npR s = .tup [.agg (netA 0 0), qd 3] := fun h => if_neg h
 obtain ⟨a0, a1⟩ := adA_in (cutA s 47)
 have hC := zcp (npA s) (npN s) a0 a1
 rw [adR_eq] at hP
 unfold numR at hN
 change Fn prog _ _ (.tup [qe (npA s), _]) _ at hP
 change Fn prog _ _ (.tup [qd (npN s), _]) _ at hN
 generalize npR s = R at *
 generalize ixB s 47 = ix at *
 generalize adE (cutA s 47) = e1 at *
 generalize zan (npA s) (npN s) = e3 at *
 generalize npA s = a at *
 generalize numE (cutZ s 47) 32 = e2 at *
 generalize npN s = n at *
 generalize cutA s 47 = A at *
 generalize cutZ s 47 = Z at *
 change Fn prog _ [.agg [qe a, qd n]] _ _ at hC
 refine fnI fun w0 A => ?_
 refine G [8] ?_
 refine cV hK ?_
 refine G [11] ?_
 refine cV hP ?_
 refine G [9] ?_
 refine cV hN ?_
 refine G [14, 2, 3, 2, 1, 9, 0] ?_
 refine cX ?_ ?_ <;> intro h
 ·exact jbg
 have h1 : 0 ≤ ix ∧ e1 = 0 ∧ e2 = 0 := qu
 clear h
 refine G [13] ?_
 refine cV hC ?_
 refine G [2, 9, 0] ?_
 refine cX ?_ ?_ <;> intro h
 ·exact jbg
 ·rw [hR1 (by rw [hE]; simp at h; omega)]
  exact jbh
theorem refNtParse_s (s : ByteArray) (hs : s.size < 4294967281) : Fn prog 139 [qc s] (npR s) [] := by
 have hI := zi5 s 47
 have zA := zdU s 47
 have zZ := zdo s 47
 have hP := refAddr_s (cutA s 47) qp
 have hN := zg2 (cutZ s 47) 32 qp
 have hE : npOk s ↔ 0 ≤ ixB s 47 ∧ adE (cutA s 47) = 0 ∧ numE (cutZ s 47) 32 = 0 ∧ zan (npA s) (npN s) = 0 := Iff.rfl
 have hR1 : npOk s → npR s = .tup [.agg (netA (npA s) (npN s)), qd 0] := fun h => if_pos h
 have hR2 : ¬ npOk s → npR s = .tup [.agg (netA 0 0), qd 3] := fun h => if_neg h
 have hA : 0 ≤ ixB s 47 → cutA s 47 = s.extract 0 (ixB s 47).toNat := fun h => if_pos h
 have hZ : 0 ≤ ixB s 47 → cutZ s 47 = s.extract ((ixB s 47).toNat + 1) s.size := fun h => if_pos h
 have hlt := ixB_lt s 47
 obtain ⟨a0, a1⟩ := adA_in (cutA s 47)
 have hC := zcH (npA s) (npN s) a0 a1
 rw [adR_eq] at hP
 unfold numR at hN
 change Fn prog _ _ (.tup [qe (npA s), _]) _ at hP
 change Fn prog _ _ (.tup [qd (npN s), _]) _ at hN
 generalize npR s = R at *
 generalize ixB s 47 = ix at *
 generalize adE (cutA s 47) = e1 at *
 generalize zan (npA s) (npN s) = e3 at *
 generalize npA s = a at *
 generalize numE (cutZ s 47) 32 = e2 at *
 generalize npN s = n at *
 generalize cutA s 47 = A at *
 generalize cutZ s 47 = Z at *
 change Fn prog _ [.agg [qe a, qd n]] _ _ at hC
 refine fnI fun w0 A => ?_
 refine G [8] ?_
 refine cV hI ?_
 refine jdQ ?_
 refine cX ?_ ?_ <;> intro h
 ·exact jbg
 have h0 : 0 ≤ ix := qu
 clear h
 have hA := hA h0
 have hZ := hZ h0
 obtain ⟨k, rfl⟩ := qbw h0
 rw [qbx] at hA hZ
 refine G [5] ?_
 refine zaa (zci (L := none) (H := (some (_, _))) U9 rfl ⟨qp, (show _ = k by omega)⟩ qp qp hA.symm) rfl rfl ?_
 refine cV hP ?_
 refine G [11] ?_
 refine zaa (zci (L := (some (_, _))) (H := none) U9 ⟨qp, (show _ = k + 1 by omega)⟩ rfl qp qp hZ.symm) rfl rfl ?_
 refine cV hN ?_
 refine G [14, 2, 3] ?_
 refine mb2 _ rfl rfl (fun hb => (zbT pl82 zr82 rfl rfl)) (fun _ => trivial) ?_
 refine mb2 _ rfl rfl (fun _ => zbc func116 rfl rfl (hC) qw rfl) (fun _ => trivial) ?_
 refine G [1, 2, 1, 9, 0] ?_
 refine cX ?_ ?_ <;> intro h
 ·exact jbg
 ·rw [hR1 (by rw [hE]; simp at h; omega)]
  exact jcz
def DIG : ByteArray := ⟨#[48, 49, 50, 51, 52, 53, 54, 55, 56, 57, 97, 98, 99, 100, 101, 102]⟩
def hx (x : Int) : Int := Lib.indexByte DIG.data.toList x.toNat.toUInt8
theorem ib_s (x : Int) : Fn prog 141 [qc ⟨#[48, 49, 50, 51, 52, 53, 54, 55, 56, 57, 97, 98, 99, 100, 101, 102]⟩, .p (.v (.int .u8 x))] (qd (hx x)) [] :=
 zfR [.string ⟨#[48, 49, 50, 51, 52, 53, 54, 55, 56, 57, 97, 98, 99, 100, 101, 102]⟩, .int .u8 x] rfl fun w => strings_IndexByte _ x w
theorem hx_fin : ∀ n : _root_.Fin 256, -1 ≤ Lib.indexByte DIG.data.toList n.val.toUInt8 ∧ Lib.indexByte DIG.data.toList n.val.toUInt8 ≤ 15 := qap
theorem hx_bd (x : Int) : -1 ≤ hx x ∧ hx x ≤ 15 := by
 have h := hx_fin ⟨x.toNat % 256, Nat.mod_lt _ qE⟩
 have e : (x.toNat % 256).toUInt8 = x.toNat.toUInt8 := by
  apply UInt8.toNat_inj.1
  show (UInt8.ofNat _).toNat = (UInt8.ofNat _).toNat
  simp only [UInt8.toNat_ofNat']
  omega
 unfold hx
 simp only [e] at h
 exact h
def hv (s : ByteArray) (i : Nat) : Int := hx (sAt s i)
def zdE (s : ByteArray) (k : Nat) : List Int := (List.range k).map fun j => 16 * hv s (2 * j) + hv s (2 * j + 1)
theorem zgL (s : ByteArray) (k : Nat) : zdE s (k + 1) = zdE s k ++ [16 * hv s (2 * k) + hv s (2 * k + 1)] := by simp [zdE, List.range_succ]
theorem zb9 (s : ByteArray) (k : Nat) : (zdE s k).length = k := by simp [zdE]
def zfh (s : ByteArray) : Bool := (List.range s.size).all fun i => decide (0 ≤ hv s i)
theorem zd7 (s : ByteArray) : zfh s = true ↔ ∀ i, i < s.size → 0 ≤ hv s i := by simp [zfh]
def hexE (s : ByteArray) : Int := if 2000 < s.size then 1 else if s.size % 2 = 0 then (if zfh s = true then 0 else 3) else 3
def ziq (s : ByteArray) : AV := if hexE s = 0 then .tup [.row 0, qd 0] else .tup [qm, qd (hexE s)]
def zir (s : ByteArray) : List (Nat × AObj) := if hexE s = 0 then [(0, .row 5 1 (s.size / 2) (bs (zdE s (s.size / 2))))] else []
theorem zbQ {s : ByteArray} {e : Int} (h : hexE s = e) (he : e ≠ 0) : ziq s = .tup [qm, qd e] ∧ zir s = [] := by
 unfold ziq zir
 rw [h, if_neg he, if_neg he]; exact ⟨rfl, rfl⟩
theorem zcB {s : ByteArray} (h : hexE s = 0) : ziq s = .tup [.row 0, qd 0] ∧ zir s = [(0, .row 5 1 (s.size / 2) (bs (zdE s (s.size / 2))))] := by
 unfold ziq zir
 rw [h, if_pos rfl, if_pos rfl]; exact ⟨rfl, rfl⟩
theorem zgs (s : ByteArray) : Fn prog 99 [qc s] (ziq s) (zir s) := by
 refine fnI fun w0 A => ?_
 refine G [12, 9, 0] ?_
 refine cX ?_ ?_ <;> intro h
 ·exact jco
 have hsz : s.size ≤ 2000 := by have := of_decide_eq_false h; omega
 clear h
 refine G [6] ?_
 refine jep ?_
 refine G [2, 9, 0] ?_
 refine cX ?_ ?_ <;> intro h
 ·exact jcc
 have hev : s.size % 2 = 0 := qu
 clear h
 refine G [5] ?_
 refine jea ?_
 refine zab (zh4 18 U91 eo5 qp qp qB) rfl rfl ⟨rfl, trivial⟩ ?_
 refine G [8] ?_
 refine zac (fun m st => ∃ k : Nat, m + k = s.size / 2 ∧ (∀ i, i < 2 * k → 0 ≤ hv s i) ∧ st = St.of [(0, qc s), (4, .row 4), (5, qd (2 * k))] [(4, .row 5 1 k (bs (zdE s k)))]) (s.size / 2) ?_ ?_
 ·refine ⟨_, zae (fun _ => 18) _ _ ?_ ?_ rfl, 0, qp, fun i hi => by omega, rfl⟩
  ·exact jap
  ·exact ja3
 rintro m st ⟨k, hk, hg, rfl⟩
 refine jdQ ?_
 refine cX ?_ ?_ <;> intro h
 ·have hlt : 2 * k < s.size := qu
  clear h
  have g1 := zgb (s := s) (i := 2 * k) hlt
  have g2 := zgb (s := s) (i := 2 * k + 1) qp
  refine G [7] ?_
  refine zaa (zb4 U9 qp (by exact g1)) rfl rfl ?_
  refine cV (ib_s _) ?_
  refine G [3] ?_
  refine zaa (zb4 U9 qp (by exact g2)) rfl rfl ?_
  refine cV (ib_s _) ?_
  refine G [11, 2, 1, 9, 0] ?_
  have b1 : -1 ≤ hv s (2 * k) ∧ hv s (2 * k) ≤ 15 := hx_bd _
  have b2 : -1 ≤ hv s (2 * k + 1) ∧ hv s (2 * k + 1) ≤ 15 := hx_bd _
  refine cX ?_ ?_ <;> intro h
  ·have h2 : hv s (2 * k) < 0 ∨ hv s (2 * k + 1) < 0 := by simpa [hv] using h
   refine jdI ?_
   have hb : ¬ zfh s = true := fun hh => by
    have h3 := (zd7 s).1 hh
    have h4 := h3 (2 * k) hlt
    have h5 := h3 (2 * k + 1) qp
    omega
   exact jcI
  ·have h2 : 0 ≤ hv s (2 * k) ∧ 0 ≤ hv s (2 * k + 1) := by simpa [hv] using h
   change 0 ≤ hx (sAt s (2 * k)) ∧ 0 ≤ hx (sAt s (2 * k + 1)) at h2
   change -1 ≤ hx (sAt s (2 * k)) ∧ hx (sAt s (2 * k)) ≤ 15 at b1
   change -1 ≤ hx (sAt s (2 * k + 1)) ∧ hx (sAt s (2 * k + 1)) ≤ 15 at b2
   refine G [8] ?_
   refine jfc (zag 46 U91 sz5 zc5 (qbe rfl) (qbe rfl) rfl rfl rfl rfl (qbe rfl)) ?_
   refine zab (zaq 47 U91 eo5 (zaS) qB qp rfl rfl) rfl rfl ⟨rfl, rfl, rfl, trivial⟩ ?_
   refine jdv ?_
   refine ⟨m - 1, qp, _, zae (fun _ => 47) _ _ ?_ ?_ rfl, k + 1, qp, fun i hi => ?_, rfl⟩
   ·exact jap
   ·rw [zgL]; simp only [bs, qbF]
    exact ja3
   ·by_cases e1 : i = 2 * k
    ·subst e1; exact h2.1
    ·by_cases e2 : i = 2 * k + 1
     ·subst e2; exact h2.2
     ·exact hg i qp
 ·have hge : s.size ≤ 2 * k := qu
  clear h
  have hb : zfh s = true := (zd7 s).2 fun i hi => hg i qp
  obtain ⟨e1, e2⟩ := zcB (s := s) qaI
  obtain rfl : k = s.size / 2 := qp
  refine G [8] ?_
  rw [e1, e2]
  refine yT (fun _ => 4) ?_ ?_
  ·exact rfl
  ·exact ja3
def keyE (s : ByteArray) : Int := if s.size = 64 then hexE s else 1
theorem zb2 (s : ByteArray) : Fn prog 66 [qc s] (qd (keyE s)) [] := by
 refine fnI fun w0 A => ?_
 refine G [11, 9, 0] ?_
 refine cX ?_ ?_ <;> intro h
 ·exact jcT
 ·have h2 : s.size = 64 := qu
  rw [show keyE s = hexE s by unfold keyE; rw [if_pos h2]]
  by_cases he : hexE s = 0
  ·obtain ⟨e1, e2⟩ := zcB he
   have hc := zgs s
   rw [e1, e2] at hc
   refine G [4] ?_
   refine cK hc ?_
   refine G [12] ?_
   rw [he]
   exact yE
  ·obtain ⟨e1, e2⟩ := zbQ (e := hexE s) rfl he
   have hc := zgs s
   rw [e1, e2] at hc
   refine G [4] ?_
   refine cK hc ?_
   refine G [12, 9, 0] ?_
   exact yE
def zbn (s : ByteArray) (i : Nat) : List Int := zdE s (i / 2) ++ (if i % 2 = 1 then [hv s (i - 1)] else [])
theorem zhK (s : ByteArray) (i : Nat) : (zbn s i).length = (i + 1) / 2 := by
 unfold zbn
 rw [qbg, zb9]
 split <;> simp <;> omega
theorem hexPart_even (s : ByteArray) (i : Nat) (h : i % 2 = 0) : (zbn s i ++ [0]).set (i / 2) (hv s i) = zbn s (i + 1) := by
 have h1 : ¬ i % 2 = 1 := qp
 have h2 : (i + 1) % 2 = 1 := qp
 have h3 : (i + 1) / 2 = i / 2 := qp
 unfold zbn
 rw [if_neg h1, if_pos h2, h3, qbA]
 rw [List.set_append_right _ _ (by rw [zb9]; omega), zb9]
 simp
theorem hexPart_odd (s : ByteArray) (i : Nat) (h : i % 2 = 1) : (zbn s i).set (i / 2) (hv s (i - 1) * 16 + hv s i) = zbn s (i + 1) := by
 have h2 : ¬ (i + 1) % 2 = 1 := qp
 have h3 : (i + 1) / 2 = i / 2 + 1 := qp
 unfold zbn
 rw [if_pos h, if_neg h2, h3, qbA, zgL]
 rw [List.set_append_right _ _ (by rw [zb9]; omega), zb9]
 have e1 : 2 * (i / 2) = i - 1 := qp
 have e2 : 2 * (i / 2) + 1 = i := qp
 rw [e2, e1, Int.mul_comm]
 simp
theorem hexPart_getE (s : ByteArray) (i : Nat) (h : i % 2 = 0) : (zbn s i ++ [0])[i / 2]? = some 0 := by
 have hl := zhK s i
 rw [qb1 (by omega)]
 have : i / 2 - (zbn s i).length = 0 := qp
 rw [this]; rfl
theorem hexPart_getO (s : ByteArray) (i : Nat) (h : i % 2 = 1) : (zbn s i)[i / 2]? = some (hv s (i - 1)) := by
 unfold zbn
 rw [if_pos h, qb1 (by rw [zb9]; omega), zb9]
 simp
theorem hexPart_full (s : ByteArray) (h : s.size % 2 = 0) : zbn s s.size = zdE s (s.size / 2) := by
 unfold zbn
 rw [if_neg (by omega), qbA]
theorem zgf (s : ByteArray) : Fn prog 113 [qc s] (ziq s) (zir s) := by
 refine fnI fun w0 A => ?_
 refine G [12, 9, 0] ?_
 refine cX ?_ ?_ <;> intro h
 ·exact jco
 have hsz : s.size ≤ 2000 := qu
 clear h
 refine G [6] ?_
 refine zaa (zf4 qC (zhJ _ qp)) rfl rfl ?_
 refine G [2, 9, 0] ?_
 refine cX ?_ ?_ <;> intro h
 ·exact jcc
 have hev : s.size % 2 = 0 := qu
 clear h
 have hml : s.size ≤ maxLen := qB
 refine G [9] ?_
 refine zab (a_s2b 16 U9 U91 U5 qav rfl rfl) rfl rfl ⟨rfl, trivial⟩ ?_
 refine G [4] ?_
 refine zaK (zbF 4 4 5 1 rfl rfl) ?_
 refine zac (fun m st => ∃ k : Nat, m + k = s.size ∧ (∀ i, i < k → 0 ≤ hv s i) ∧ st = St.of [(4, .row 4), (16, .row 16), (17, qd s.size), (18, qd k)] [(4, .row 5 1 ((k + 1) / 2) (bs (zbn s k))), (16, .row 5 1 s.size (bs (sb s)))]) s.size ?_ ?_
 ·refine ⟨_, zae id _ _ ?_ ?_ rfl, 0, qp, fun i hi => by omega, rfl⟩
  ·exact jap
  ·exact ja5
 rintro m st ⟨k, hk, hg, rfl⟩
 refine G [5] ?_
 refine cX ?_ ?_ <;> intro h
 ·have hlt : k < s.size := qu
  clear h
  have g1 := bs_at (sb_at hlt)
  refine G [7] ?_
  refine jdP ?_
  refine G [6] ?_
  refine cV (ib_s _) ?_
  refine G [4] ?_
  have b1 : -1 ≤ hx (sAt s k) ∧ hx (sAt s k) ≤ 15 := hx_bd _
  refine G [4, 9, 0] ?_
  refine cX ?_ ?_ <;> intro h
  ·have h2 : hv s k < 0 := by simpa [hv] using h
   refine jdI ?_
   have hb : ¬ zfh s = true := fun hh => by
    have h3 := (zd7 s).1 hh k hlt
    omega
   exact jcI
  have h2 : 0 ≤ hx (sAt s k) := qz
  clear h
  have hpl := zhK s k
  refine G [5] ?_
  refine zaa (zf4 qC (zhJ _ qp)) rfl rfl ?_
  refine G [2, 9, 0] ?_
  refine cX ?_ ?_ <;> intro h
  ·have h3 : k % 2 = 0 := qu
   clear h
   have hn : (k + 1) / 2 + 1 = (k + 2) / 2 := qp
   skip
   refine G [2] ?_
   refine jfc (zag 31 U91 sz5 zc5 (qbe rfl) (qbe rfl) rfl rfl rfl rfl (qbe rfl)) ?_
   refine zab (zaq 32 U91 eo5 (zaS) qB qp hn rfl) rfl rfl ⟨rfl, rfl, rfl, trivial⟩ ?_
   refine G [2, 9, 0] ?_
   have g2 : (bs (zbn s k) ++ [PV.v (.int .u8 0)])[k / 2]? = some (.v (.int .u8 0)) := by rw [bs_push]; exact bs_at (hexPart_getE s k h3)
   have q1 : (bs (zbn s k) ++ [PV.v (.int .u8 0)]).length = (k + 2) / 2 := by rw [qbg, bs_length, hpl]; simp; omega
   have q2 : setR (bs (zbn s k) ++ [PV.v (.int .u8 0)]) (k / 2) [.v (.int .u8 (0 * 16 + hx (sAt s k)))] = bs (zbn s (k + 1)) := by
    rw [bs_push, bs_set (by rw [bs_push, bs_length] at q1; omega), Int.zero_mul, Int.zero_add]
    exact congrArg bs (hexPart_even s k h3)
   refine G [3] ?_
   refine jea ?_
   refine G [2] ?_
   refine jea ?_
   refine zab (zat U91 sz5 qp qp (show _ = k / 2 by omega)) rfl rfl ⟨rfl, trivial⟩ ?_
   refine jfc (zbC U5 rfl g2) ?_
   refine G [4] ?_
   refine zab (zat U91 sz5 qp qp (show _ = k / 2 by omega)) rfl rfl ⟨rfl, trivial⟩ ?_
   refine je9 ?_
   refine ⟨m - 1, qp, _, zae (fun o => bif Nat.beq o 4 then 32 else o) _ _ ?_ ?_ rfl, k + 1, qp, fun i hi => ?_, rfl⟩
   ·exact jap
   ·exact ⟨⟨by rw [show (k + 1 + 1) / 2 = (k + 2) / 2 from rfl]; rfl, rfl⟩, ⟨rfl, rfl⟩, trivial⟩
   ·by_cases e1 : i = k
    ·subst e1; exact h2
    ·exact hg i qp
  ·have h3 : k % 2 = 1 := qu
   clear h
   have g2 := bs_at (hexPart_getO s k h3)
   have b2 : -1 ≤ hv s (k - 1) ∧ hv s (k - 1) ≤ 15 := hx_bd _
   have b3 := hg (k - 1) qp
   have q1 : (bs (zbn s k)).length = (k + 1) / 2 := by rw [bs_length, hpl]
   have q2 : setR (bs (zbn s k)) (k / 2) [.v (.int .u8 (hv s (k - 1) * 16 + hx (sAt s k)))] = bs (zbn s (k + 1)) := by
    rw [bs_set (by omega)]
    exact congrArg bs (hexPart_odd s k h3)
   refine G [4] ?_
   refine jea ?_
   refine G [2] ?_
   refine jea ?_
   refine zab (zat U91 sz5 qp qp (show _ = k / 2 by omega)) rfl rfl ⟨rfl, trivial⟩ ?_
   refine jfc (zbC U5 rfl g2) ?_
   refine G [4] ?_
   refine zab (zat U91 sz5 qp qp (show _ = k / 2 by omega)) rfl rfl ⟨rfl, trivial⟩ ?_
   refine je9 ?_
   refine ⟨m - 1, qp, _, zae id _ _ ?_ ?_ rfl, k + 1, qp, fun i hi => ?_, rfl⟩
   ·exact jap
   ·exact ⟨⟨by rw [show (k + 1 + 1) / 2 = (k + 1) / 2 by omega]; rfl, rfl⟩, ⟨rfl, rfl⟩, trivial⟩
   ·by_cases e1 : i = k
    ·subst e1; exact h2
    ·exact hg i qp
 ·have hge : s.size ≤ k := qu
  clear h
  have hb : zfh s = true := (zd7 s).2 fun i hi => hg i qp
  obtain ⟨e1, e2⟩ := zcB (s := s) qaI
  obtain rfl : k = s.size := qp
  refine G [8] ?_
  rw [e1, e2]
  refine yT (fun _ => 4) ?_ ?_
  ·exact rfl
  ·rw [← hexPart_full s hev, ← show (s.size + 1) / 2 = s.size / 2 by omega]
   exact ja3
theorem zbP (s : ByteArray) : Fn prog 82 [qc s] (qd (keyE s)) [] := by
 refine fnI fun w0 A => ?_
 refine G [11, 9, 0] ?_
 refine cX ?_ ?_ <;> intro h
 ·exact jcT
 ·have h2 : s.size = 64 := qu
  have hk : hexE s = 0 ∨ hexE s = 3 := by
   unfold hexE
   rw [if_neg (by omega), if_pos (by omega)]
   split
   ·exact .inl rfl
   ·exact .inr rfl
  rw [show keyE s = hexE s by unfold keyE; rw [if_pos h2]]
  rcases hk with he | he
  ·obtain ⟨e1, e2⟩ := zcB he
   have hc := zgf s
   rw [e1, e2] at hc
   refine G [5] ?_
   refine cK hc ?_
   refine G [11, 9, 0] ?_
   refine cX ?_ ?_ <;> intro h
   ·cases h
   refine G [6] ?_
   rw [he]
   exact yE
  ·obtain ⟨e1, e2⟩ := zbQ (s := s) he qp
   have hc := zgf s
   rw [e1, e2] at hc
   refine G [5] ?_
   refine cK hc ?_
   refine G [11, 9, 0] ?_
   refine cX ?_ ?_ <;> intro h
   ·refine jdD ?_
    rw [he]
    exact yE
   ·cases h
def zdW : ByteArray := ⟨(Lib.repeatL [48] 64).toArray⟩
theorem ziG : zdW ≠ ⟨#[]⟩ := by
 intro h
 have := congrArg ByteArray.size h
 revert this
 decide +kernel
theorem zfC : Fn prog 100 [qc ⟨#[48]⟩, qd 64] (qc zdW) [] := by
 refine zi8 rfl fun w A us hA hus => ?_
 rw [repL_vs (vs := [.string ⟨#[48]⟩, .int .i64 64]) hus]
 exact (strings_Repeat ⟨#[48]⟩ 64 w qE qap).mono fun e w' ⟨he, hb⟩ => ⟨he, hb⟩
theorem netOrd_turn (a n b m : Int) : 0 ≤ zbI a n b m ↔ zbI b m a n ≠ 1 := by
 unfold zbI ord3
 by_cases h : a = b
 ·subst h
  rw [if_pos rfl, if_pos rfl]
  split <;> split <;> (try split) <;> omega
 ·rw [if_neg h, if_neg (Ne.symm h)]
  split <;> split <;> (try split) <;> omega
abbrev NtP := Int × Int
def ntC (p : NtP) : List PV := [qi p.1, qh p.2]
def ntOK (p : NtP) : Prop := 0 ≤ p.1 ∧ p.1 < 4294967296
def ntG (l : List NtP) (i : Nat) : NtP := l.getD i (0, 0)
def zcG (l : List NtP) (i : Nat) : Int :=
 if zan (ntG l i).1 (ntG l i).2 ≠ 0 then zan (ntG l i).1 (ntG l i).2
 else if 0 < i ∧ 0 ≤ zbI (ntG l (i - 1)).1 (ntG l (i - 1)).2 (ntG l i).1 (ntG l i).2 then 6 else 0
def ntsE (l : List NtP) : Int := fnz (zcG l) l.length
structure PE where
 key : ByteArray
 sh : ByteArray
 ep : ByteArray
 al : Int
 nets : List NtP
def PE.cells (p : PE) : List AV := [qc p.key, qc p.sh, qc p.ep, qd p.al, ql p.nets.length 2 (p.nets.flatMap ntC)]
def PE.pv (p : PE) : List PV := [qg p.key, qg p.sh, qg p.ep, qh p.al, .sl p.nets.length 2 (p.nets.flatMap ntC)]
structure PE.OK (p : PE) : Prop where
 ep : p.ep.size < 4294967281
 len : p.nets.length ≤ 140737488351232
 nets : ∀ n ∈ p.nets, ntOK n
def peE (p : PE) : Int :=
 if keyE p.key ≠ 0 then keyE p.key else if p.sh ≠ ⟨#[]⟩ ∧ keyE p.sh ≠ 0 then keyE p.sh else if p.sh = zdW then 3
 else if p.ep ≠ ⟨#[]⟩ ∧ enE p.ep ≠ 0 then enE p.ep else if p.al < 0 ∨ 65535 < p.al then 4 else if 8 < p.nets.length then 1 else ntsE p.nets
theorem enR_e (s : ByteArray) : ∃ a b : Int, enR s = .tup [qe a, qd b, qd (enE s)] := by
 unfold enR enE
 split <;> exact ⟨_, _, rfl⟩
theorem right_s (p : PE) (ok : p.OK) : Fn prog 67 [.agg p.cells] (.p (.v (.int .i64 (peE p)))) [] := by
 obtain ⟨key, sh, ep, al, nets⟩ := p
 obtain ⟨ok1, ok2, ok3⟩ := ok
 dsimp only at ok1 ok2 ok3
 obtain ⟨E, hE⟩ : ∃ E, peE ⟨key, sh, ep, al, nets⟩ = E := ⟨_, rfl⟩
 rw [hE]
 unfold peE at hE
 dsimp only at hE
 have hK := zb2 key
 have hS := zb2 sh
 have hZ := zfC
 have hEn := end_s ep ok1
 obtain ⟨ea, eb, hen⟩ := enR_e ep
 rw [hen] at hEn
 clear hen
 show Fn prog _ [.agg [.p (.v (.string key)), .p (.v (.string sh)), .p (.v (.string ep)), .p (.v (.int .i64 al)), ql nets.length 2 (nets.flatMap ntC)]] _ _
 have hzn := ziG
 have hNE : ntsE nets = fnz (zcG nets) nets.length := rfl
 generalize keyE key = k1 at *
 generalize keyE sh = k2 at *
 generalize enE ep = e1 at *
 generalize zdW = ZZ at *
 refine fnI fun w0 A => ?_
 refine G [10] ?_
 refine cV hK ?_
 refine jdv ?_
 refine cX ?_ ?_ <;> intro h
 ·exact jcZ
 have h1 : k1 = 0 := qz
 clear h
 rw [if_neg (by simp [h1])] at hE
 by_cases h2 : sh ≠ ⟨#[]⟩ ∧ k2 ≠ 0
 ·rw [if_pos h2] at hE
  subst hE
  refine jdQ ?_
  refine cX ?_ ?_ <;> intro h
  ·refine G [5] ?_
   refine cV hS ?_
   refine jdv ?_
   refine cX ?_ ?_ <;> intro h
   ·exact jaH
   ·exact absurd qz h2.2
  ·exact absurd qz h2.1
 rw [if_neg h2] at hE
 by_cases h3 : sh = ZZ
 ·rw [if_pos h3] at hE
  subst hE
  refine jdQ ?_
  refine cX ?_ ?_ <;> intro h
  ·refine G [5] ?_
   refine cV hS ?_
   refine jdv ?_
   refine cX ?_ ?_ <;> intro h
   ·exact absurd ⟨by rw [h3]; exact hzn, by simpa using h⟩ h2
   ·refine G [5] ?_
    refine cK hZ ?_
    refine G [2, 9, 0] ?_
    refine cX ?_ ?_ <;> intro h
    ·exact ja4
    ·exact absurd h3 qz
  ·exact absurd qz (show ¬ sh = ⟨#[]⟩ by rw [h3]; exact hzn)
 rw [if_neg h3] at hE
 refine jdQ ?_
 refine zdp (St.of [(1, .ref 1 0)] [(1, .box 48 [.p (.v (.string key)), .p (.v (.string sh)), .p (.v (.string ep)), .p (.v (.int .i64 al)), ql nets.length 2 (nets.flatMap ntC)])]) ?_ ?_
 ·skip
  refine cX ?_ ?_ <;> intro h
  ·refine G [5] ?_
   refine cV hS ?_
   refine jdv ?_
   refine cX ?_ ?_ <;> intro h
   ·exact absurd ⟨by simp_all, by simpa using h⟩ h2
   ·refine G [5] ?_
    refine cK hZ ?_
    refine G [2, 9, 0] ?_
    refine cX ?_ ?_ <;> intro h
    ·exact absurd qz h3
    ·exact jcH
  ·exact jcH
 clear h2 h3 hzn
 by_cases h4 : ep ≠ ⟨#[]⟩ ∧ e1 ≠ 0
 ·rw [if_pos h4] at hE
  subst hE
  refine jdv ?_
  exact jbj
 rw [if_neg h4] at hE
 refine jdv ?_
 refine zdp (St.of [(1, .ref 1 0)] [(1, .box 48 [.p (.v (.string key)), .p (.v (.string sh)), .p (.v (.string ep)), .p (.v (.int .i64 al)), ql nets.length 2 (nets.flatMap ntC)])]) ?_ ?_
 ·exact jaN
 clear h4
 refine G [10, 2, 1, 9, 0] ?_
 refine cX ?_ ?_ <;> intro h
 ·have h5 : al < 0 ∨ 65535 < al := qz
  exact jcY
 have h5 : ¬ (al < 0 ∨ 65535 < al) := qu
 clear h
 rw [if_neg h5] at hE
 refine G [9, 9, 0] ?_
 refine cX ?_ ?_ <;> intro h
 ·have h6 : 8 < nets.length := qu
  rw [if_pos h6] at hE
  subst hE
  exact ja4
 have h6 : ¬ 8 < nets.length := qu
 clear h
 rw [if_neg h6, hNE] at hE
 refine G [10] ?_
 refine zac (fun m st => ∃ i : Nat, m + i = nets.length ∧ (∀ j, j < i → zcG nets j = 0) ∧ st = St.of [(1, .ref 1 0), (56, ql nets.length 2 (nets.flatMap ntC)), (57, .p (.v (.int .i64 nets.length))), (58, .p (.v (.int .i64 i)))] [(1, .box 48 [.p (.v (.string key)), .p (.v (.string sh)), .p (.v (.string ep)), .p (.v (.int .i64 al)), ql nets.length 2 (nets.flatMap ntC)])]) nets.length ?_ ?_
 ·exact jaA
 rintro m st ⟨i, hi, hf, rfl⟩
 refine G [5] ?_
 refine cX ?_ ?_ <;> intro h
 ·have hlt : i < nets.length := qu
  clear h
  obtain ⟨q, hq⟩ := qo hlt
  have hch := zaj (f := ntC) (k := 2) (fun _ => rfl) hq
  have hle := zai (f := ntC) (k := 2) (fun _ => rfl) hlt
  have hqk := ok3 q (qbh hq)
  have hC := zcp q.1 q.2 hqk.1 hqk.2
  have hhit := @zca (zcG nets) i nets.length hf hlt
  have hgq : ntG nets i = q := qaM
  have hst : zcG nets i = if zan q.1 q.2 ≠ 0 then zan q.1 q.2 else if 0 < i ∧ 0 ≤ zbI (ntG nets (i - 1)).1 (ntG nets (i - 1)).2 q.1 q.2 then 6 else 0 := by unfold zcG; rw [hgq]
  obtain ⟨qa, qn⟩ := q
  dsimp only at hst hC
  change Fn prog _ [.agg [.p (.v (.int .u32 qa)), .p (.v (.int .i64 qn))]] _ _ at hC
  have hprev : ∀ j, i = j + 1 → (((nets.flatMap ntC).drop (j * 2)).take 2 = ntC (ntG nets j)) ∧ j * 2 + 2 ≤ (nets.flatMap ntC).length := by
   exact jbE
  generalize hL : nets.flatMap ntC = L at *
  generalize hFl : zan qa qn = fe at *
  refine jeX ?_
  refine cX ?_ ?_ <;> intro h
  ·have h7 : fe ≠ 0 := qz
   exact jbp
  have h7 : fe = 0 := qz
  clear h
  rw [if_neg (by simp [h7])] at hst
  have hnext : ∀ st, zcG nets i = 0 → Re st (St.of [(1, .ref 1 0), (56, ql nets.length 2 L), (57, .p (.v (.int .i64 nets.length))), (58, .p (.v (.int .i64 ((i + 1 : Nat) : Int))))] [(1, .box 48 [.p (.v (.string key)), .p (.v (.string sh)), .p (.v (.string ep)), .p (.v (.int .i64 al)), ql nets.length 2 L])]) →
   ∃ n', n' < m ∧ ∃ st1, Re st st1 ∧ ∃ i : Nat, n' + i = nets.length ∧ (∀ j, j < i → zcG nets j = 0) ∧ st1 = St.of [(1, .ref 1 0), (56, ql nets.length 2 L), (57, .p (.v (.int .i64 nets.length))), (58, .p (.v (.int .i64 i)))] [(1, .box 48 [.p (.v (.string key)), .p (.v (.string sh)), .p (.v (.string ep)), .p (.v (.int .i64 al)), ql nets.length 2 L])] := fun st hz hre => by
   refine ⟨m - 1, qp, _, hre, i + 1, qp, fun j hj => ?_, rfl⟩
   by_cases e : j = i
   ·rw [e]; exact hz
   ·exact hf j qp
  have hcase : i = 0 ∨ ∃ j, i = j + 1 := by
   exact jcf
  rcases hcase with hi0 | ⟨j, hij⟩
  ·exact jbZ
  ·obtain ⟨hpv, hple⟩ := hprev j hij
   rw [show i - 1 = j by omega] at hst
   generalize hpp : ntG nets j = pp at *
   obtain ⟨pa, pn⟩ := pp
   have hCm := nCmp_s pa pn qa qn
   dsimp only at hst
   change Fn prog _ [.agg [.p (.v (.int .u32 pa)), .p (.v (.int .i64 pn))], .agg [.p (.v (.int .u32 qa)), .p (.v (.int .i64 qn))]] _ _ at hCm
   generalize zbI pa pn qa qn = o at *
   refine G [4, 4, 5] ?_
   refine zaa (zaZ U46 sz82 qp qp (show _ = L.drop (j * 2) by congr 2; omega)) rfl rfl ?_
   refine zaa (zas U82 rfl sz82 qW (hpv)) rfl rfl ?_
   refine lN U82 rfl sz82 rfl rfl ⟨rfl, trivial⟩ ?_
   (first | refine zbX rfl ?_ | refine zay (fun n => 78 + 1000 * n) (hCm) rfl rfl func102 rfl rfl qw rfl rfl rfl qq rfl rfl rfl ?_)
   refine jdR ?_
   refine cX ?_ ?_ <;> intro h
   ·have h8 : 0 ≤ o := qz
    exact jcj
   have h8 : ¬ 0 ≤ o := qz
   rw [if_neg (by intro ⟨_, h9⟩; exact h8 h9)] at hst
   refine jdD ?_
   refine hnext _ hst (zae id _ _ ?_ ?_ rfl)
   ·exact jap
   ·exact ja3
 have hge : i = nets.length := qu
 clear h
 subst hge
 rw [zcP hf] at hE
 subst hE
 refine jdI ?_
 exact yE
theorem zge : Fn prog 114 [] (qc zdW) [] := by
 have hZ := zfC
 generalize zdW = Z at *
 refine fnI fun w0 A => ?_
 refine G [6] ?_
 refine cK hZ ?_
 exact jbm
theorem refPeer_s (p : PE) (ok : p.OK) : Fn prog 83 [.agg p.cells] (.p (.v (.int .i64 (peE p)))) [] := by
 obtain ⟨key, sh, ep, al, nets⟩ := p
 obtain ⟨ok1, ok2, ok3⟩ := ok
 dsimp only at ok1 ok2 ok3
 obtain ⟨E, hE⟩ : ∃ E, peE ⟨key, sh, ep, al, nets⟩ = E := ⟨_, rfl⟩
 rw [hE]
 unfold peE at hE
 dsimp only at hE
 have hK := zbP key
 have hS := zbP sh
 have hZ := zge
 have hEn := ziO ep ok1
 obtain ⟨ea, eb, hen⟩ := enR_e ep
 rw [hen] at hEn
 clear hen
 show Fn prog _ [.agg [.p (.v (.string key)), .p (.v (.string sh)), .p (.v (.string ep)), .p (.v (.int .i64 al)), ql nets.length 2 (nets.flatMap ntC)]] _ _
 have hzn := ziG
 have hNE : ntsE nets = fnz (zcG nets) nets.length := rfl
 generalize keyE key = k1 at *
 generalize keyE sh = k2 at *
 generalize enE ep = e1 at *
 generalize zdW = ZZ at *
 refine fnI fun w0 A => ?_
 refine G [10] ?_
 refine cV hK ?_
 refine jdv ?_
 refine cX ?_ ?_ <;> intro h
 ·exact jcZ
 have h1 : k1 = 0 := qz
 clear h
 rw [if_neg (by simp [h1])] at hE
 refine G [10] ?_
 refine mb2 _ rfl rfl (fun _ => zbc func82 rfl rfl (hS) qw rfl) (fun _ => trivial) ?_
 refine G [1, 2, 1, 9, 0] ?_
 refine cX ?_ ?_ <;> intro h
 ·have h2 : sh ≠ ⟨#[]⟩ ∧ k2 ≠ 0 := qz
  rw [if_pos h2] at hE
  subst hE
  refine G [4] ?_
  refine cV hS ?_
  exact jbm
 have h2 : ¬ (sh ≠ ⟨#[]⟩ ∧ k2 ≠ 0) := by
  intro ⟨h3, h4⟩
  simp [h3, h4] at h
 clear h
 rw [if_neg h2] at hE
 refine G [6] ?_
 refine cK hZ ?_
 refine G [2, 9, 0] ?_
 refine cX ?_ ?_ <;> intro h
 ·have h3 : sh = ZZ := qz
  rw [if_pos h3] at hE
  subst hE
  exact ja4
 have h3 : ¬ sh = ZZ := qz
 clear h
 rw [if_neg h3] at hE
 refine G [6] ?_
 refine cV hEn ?_
 refine G [16, 2, 1, 9, 0] ?_
 refine cX ?_ ?_ <;> intro h
 ·exact jci
 have h4 : ¬ (ep ≠ ⟨#[]⟩ ∧ e1 ≠ 0) := by
  intro ⟨h5, h6⟩
  simp [h5, h6] at h
 clear h
 rw [if_neg h4] at hE
 refine G [11, 2, 1, 9, 0] ?_
 refine cX ?_ ?_ <;> intro h
 ·have h5 : al < 0 ∨ 65535 < al := qz
  exact jcY
 have h5 : ¬ (al < 0 ∨ 65535 < al) := qu
 clear h
 rw [if_neg h5] at hE
 refine G [9, 9, 0] ?_
 refine cX ?_ ?_ <;> intro h
 ·have h6 : 8 < nets.length := qu
  rw [if_pos h6] at hE
  subst hE
  exact ja4
 have h6 : ¬ 8 < nets.length := qu
 clear h
 rw [if_neg h6, hNE] at hE
 refine G [10] ?_
 refine zac (fun m st => ∃ i : Nat, m + i = nets.length ∧ (∀ j, j < i → zcG nets j = 0) ∧ st = St.of [(1, .ref 1 0), (60, ql nets.length 2 (nets.flatMap ntC)), (61, .p (.v (.int .i64 nets.length))), (62, .p (.v (.int .i64 i)))] [(1, .box 48 [.p (.v (.string key)), .p (.v (.string sh)), .p (.v (.string ep)), .p (.v (.int .i64 al)), ql nets.length 2 (nets.flatMap ntC)])]) nets.length ?_ ?_
 ·exact jaA
 rintro m st ⟨i, hi, hf, rfl⟩
 refine G [5] ?_
 refine cX ?_ ?_ <;> intro h
 ·have hlt : i < nets.length := qu
  clear h
  obtain ⟨q, hq⟩ := qo hlt
  have hch := zaj (f := ntC) (k := 2) (fun _ => rfl) hq
  have hle := zai (f := ntC) (k := 2) (fun _ => rfl) hlt
  have hqk := ok3 q (qbh hq)
  have hC := zcH q.1 q.2 hqk.1 hqk.2
  have hhit := @zca (zcG nets) i nets.length hf hlt
  have hgq : ntG nets i = q := qaM
  have hst : zcG nets i = if zan q.1 q.2 ≠ 0 then zan q.1 q.2 else if 0 < i ∧ 0 ≤ zbI (ntG nets (i - 1)).1 (ntG nets (i - 1)).2 q.1 q.2 then 6 else 0 := by unfold zcG; rw [hgq]
  obtain ⟨qa, qn⟩ := q
  dsimp only at hst hC
  change Fn prog _ [.agg [.p (.v (.int .u32 qa)), .p (.v (.int .i64 qn))]] _ _ at hC
  have hprev : ∀ j, i = j + 1 → (((nets.flatMap ntC).drop (j * 2)).take 2 = ntC (ntG nets j)) ∧ j * 2 + 2 ≤ (nets.flatMap ntC).length := by
   exact jbE
  generalize hL : nets.flatMap ntC = L at *
  generalize hFl : zan qa qn = fe at *
  refine jeX ?_
  refine cX ?_ ?_ <;> intro h
  ·have h7 : fe ≠ 0 := qz
   exact jbp
  have h7 : fe = 0 := qz
  clear h
  rw [if_neg (by simp [h7])] at hst
  have hnext : ∀ st, zcG nets i = 0 → Re st (St.of [(1, .ref 1 0), (60, ql nets.length 2 L), (61, .p (.v (.int .i64 nets.length))), (62, .p (.v (.int .i64 ((i + 1 : Nat) : Int))))] [(1, .box 48 [.p (.v (.string key)), .p (.v (.string sh)), .p (.v (.string ep)), .p (.v (.int .i64 al)), ql nets.length 2 L])]) →
   ∃ n', n' < m ∧ ∃ st1, Re st st1 ∧ ∃ i : Nat, n' + i = nets.length ∧ (∀ j, j < i → zcG nets j = 0) ∧ st1 = St.of [(1, .ref 1 0), (60, ql nets.length 2 L), (61, .p (.v (.int .i64 nets.length))), (62, .p (.v (.int .i64 i)))] [(1, .box 48 [.p (.v (.string key)), .p (.v (.string sh)), .p (.v (.string ep)), .p (.v (.int .i64 al)), ql nets.length 2 L])] := fun st hz hre => by
   refine ⟨m - 1, qp, _, hre, i + 1, qp, fun j hj => ?_, rfl⟩
   by_cases e : j = i
   ·rw [e]; exact hz
   ·exact hf j qp
  have hcase : i = 0 ∨ ∃ j, i = j + 1 := by
   exact jcf
  rcases hcase with hi0 | ⟨j, hij⟩
  ·exact jbZ
  ·obtain ⟨hpv, hple⟩ := hprev j hij
   rw [show i - 1 = j by omega] at hst
   generalize hpp : ntG nets j = pp at *
   obtain ⟨pa, pn⟩ := pp
   have hCm := nOrd_s qa qn pa pn
   have htn := netOrd_turn pa pn qa qn
   dsimp only at hst
   change Fn prog _ [.agg [.p (.v (.int .u32 qa)), .p (.v (.int .i64 qn))], .agg [.p (.v (.int .u32 pa)), .p (.v (.int .i64 pn))]] _ _ at hCm
   generalize zbI pa pn qa qn = o at *
   generalize zbI qa qn pa pn = o' at *
   refine G [4, 4, 6] ?_
   refine zaa (zaZ U46 sz82 qp qp (show _ = L.drop (j * 2) by congr 2; omega)) rfl rfl ?_
   refine zaa (zas U82 rfl sz82 qW (hpv)) rfl rfl ?_
   (first | refine zbX rfl ?_ | refine zay (fun n => 82 + 1000 * n) (hCm) rfl rfl func117 rfl rfl qw rfl rfl rfl qq rfl rfl rfl ?_)
   refine jdR ?_
   refine cX ?_ ?_ <;> intro h
   ·have h8 : 0 ≤ o := htn.2 qz
    exact jcj
   have h8 : ¬ 0 ≤ o := fun h9 => htn.1 h9 qz
   rw [if_neg (by intro ⟨_, h9⟩; exact h8 h9)] at hst
   refine jdD ?_
   refine hnext _ hst (zae id _ _ ?_ ?_ rfl)
   ·exact jap
   ·exact ja3
 have hge : i = nets.length := qu
 exact jcK
theorem PE.of_ty {n : Nat} {ps : List PV} (h : Ty prog (n + 5) 48 ps) (hb : PV.bdL 1048576 ps) : ∃ p : PE, p.OK ∧ ps = p.pv := by
 obtain ⟨_, rfl, x0, _, rfl, t0, x1, _, rfl, t1, x2, _, rfl, t2, x3, _, rfl, t3, x4, _, rfl, t4, rfl⟩ := zbi (ts := [9, 9, 9, 3, 46]) qr h
 obtain ⟨a0, rfl, _⟩ := zbD U9 t0
 obtain ⟨a1, rfl, _⟩ := zbD U9 t1
 obtain ⟨a2, rfl, _⟩ := zbD U9 t2
 obtain ⟨a3, rfl, w3⟩ := zbz U3 t3
 obtain ⟨l, rfl, hl, hok⟩ := ty_recs (f := ntC) (Q := ntOK) (sz := 2) U46 qr t4 fun x hx => by
  obtain ⟨_, rfl, y0, _, rfl, u0, y1, _, rfl, u1, rfl⟩ := zbi (ts := [80, 3]) qr hx
  obtain ⟨a, rfl, ha⟩ := zbz U80 u0
  obtain ⟨b, rfl, hb⟩ := zbz U3 u1
  obtain ⟨q0, q1⟩ := wf_u32 ha
  exact ⟨(a, b), ⟨q0, q1⟩, rfl⟩
 simp only [qbZ, List.flatten_nil, qbA, qcs, qbG, qbK, PV.bdL, PV.bd, and_true] at hb
 refine ⟨⟨a0, a1, a2, a3, l⟩, ⟨?_, ?_, hok⟩, rfl⟩
 ·show a2.size < _
  omega
 ·show l.length ≤ _
  omega
structure SE where
 k : Int
 t : ByteArray
 n : Int
 a : Int
 b : Int
def SE.cells (s : SE) : List AV := [qd s.k, qc s.t, qd s.n, qe s.a, qd s.b]
def SE.pv (s : SE) : List PV := [qh s.k, qg s.t, qh s.n, qi s.a, qh s.b]
structure SE.OK (s : SE) : Prop where
 t : s.t.size < 4294967281
 n0 : -9223372036854775808 ≤ s.n
 n1 : s.n ≤ 9223372036854775807
 a0 : 0 ≤ s.a
 a1 : s.a < 4294967296
def isT (k : Int) : Bool := k == 1 || k == 4 || k == 6 || k == 7
def isN (k : Int) : Bool := k == 2 || k == 8
def isC (k : Int) : Bool := k == 10
def seF (s : SE) : Prop := (isT s.k = false ∧ s.t ≠ ⟨#[]⟩) ∨ (isN s.k = false ∧ s.n ≠ 0) ∨ (isC s.k = false ∧ ¬ (s.a = 0 ∧ s.b = 0))
instance seF_dec (s : SE) : Decidable (seF s) := by unfold seF; infer_instance
def seV (s : SE) : Int :=
 if isN s.k = true then (if s.n < 0 ∨ 65535 < s.n then 4 else 0)
 else if isC s.k = true then zan s.a s.b
 else if s.k = 7 then enE s.t
 else if s.k = 6 then (if s.t = ⟨#[]⟩ then 0 else if s.t = zdW then 3 else keyE s.t)
 else if isT s.k = true then keyE s.t else 0
def seE (s : SE) : Int := if s.k < 1 ∨ 10 < s.k then 2 else if seF s then 3 else seV s
theorem zbf (a b : Int) : eqL [.int .u32 a, .int .i64 b] [.int .u32 0, .int .i64 0] = (a == 0 && b == 0) := by
 rw [qbX, zaN]
 simp
theorem seV_1 (t : ByteArray) (n a b : Int) : seV ⟨1, t, n, a, b⟩ = (keyE t) := qY
theorem seV_2 (t : ByteArray) (n a b : Int) : seV ⟨2, t, n, a, b⟩ = (if n < 0 ∨ 65535 < n then 4 else 0) := qY
theorem seV_3 (t : ByteArray) (n a b : Int) : seV ⟨3, t, n, a, b⟩ = (0) := qY
theorem seV_4 (t : ByteArray) (n a b : Int) : seV ⟨4, t, n, a, b⟩ = (keyE t) := qY
theorem seV_5 (t : ByteArray) (n a b : Int) : seV ⟨5, t, n, a, b⟩ = (0) := qY
theorem seV_6 (t : ByteArray) (n a b : Int) : seV ⟨6, t, n, a, b⟩ = (if t = ⟨#[]⟩ then 0 else if t = zdW then 3 else keyE t) := qY
theorem seV_7 (t : ByteArray) (n a b : Int) : seV ⟨7, t, n, a, b⟩ = (enE t) := qY
theorem seV_8 (t : ByteArray) (n a b : Int) : seV ⟨8, t, n, a, b⟩ = (if n < 0 ∨ 65535 < n then 4 else 0) := qY
theorem seV_9 (t : ByteArray) (n a b : Int) : seV ⟨9, t, n, a, b⟩ = (0) := qY
theorem seV_10 (t : ByteArray) (n a b : Int) : seV ⟨10, t, n, a, b⟩ = (zan a b) := qY
theorem mostN_s (k : Int) (hk : k = 2 ∨ k = 8) : Fn prog 107 [qd k] (qd 65535) [] := by
 rcases hk with rfl | rfl
 ·refine fnI fun w0 A => ?_
  refine G [12, 1, 8, 9, 0] ?_
  exact yE
 ·refine fnI fun w0 A => ?_
  refine G [18, 1, 8, 9, 0] ?_
  exact yE
theorem most1_s : Fn prog 107 [qd 1] (qd (-1)) [] := by
 exact jbx
theorem most3_s : Fn prog 107 [qd 3] (qd (-1)) [] := by
 exact jbx
theorem most4_s : Fn prog 107 [qd 4] (qd (-1)) [] := by
 exact jbx
theorem most5_s : Fn prog 107 [qd 5] (qd (-1)) [] := by
 exact jbx
theorem most6_s : Fn prog 107 [qd 6] (qd (-1)) [] := by
 exact jbx
theorem most7_s : Fn prog 107 [qd 7] (qd (-1)) [] := by
 exact jbx
theorem most9_s : Fn prog 107 [qd 9] (qd (-1)) [] := by
 exact jbx
theorem most10_s : Fn prog 107 [qd 10] (qd (-1)) [] := by
 exact jbx
theorem check1_s (t : ByteArray) (n a b : Int) (ok : SE.OK ⟨1, t, n, a, b⟩) : Fn prog 72 [.agg (SE.cells ⟨1, t, n, a, b⟩)] (qd (seE ⟨1, t, n, a, b⟩)) [] := by
 obtain ⟨hz, hn0, hn1, ha0, ha1⟩ := ok
 dsimp only at hz hn0 hn1 ha0 ha1
 obtain ⟨E, hE⟩ : ∃ E, seE ⟨1, t, n, a, b⟩ = E := ⟨_, rfl⟩
 rw [hE]
 unfold seE at hE
 rw [if_neg (by dsimp only; decide)] at hE
 refine jd0 ?_
 have hM := most1_s
 have hH := zb2 t
 refine fnI fun w0 A => ?_
 refine G [23] ?_
 refine cK hM ?_
 refine G [18, 1, 5] ?_
 skip
 refine G [3] ?_
 by_cases hn : n ≠ 0
 ·rw [if_pos (show seF ⟨1, t, n, a, b⟩ by simp [seF, isT, isN, isC, *])] at hE
  exact jc4
 replace hn : n = 0 := qbk.1 hn
 refine G [16, 3, 9] ?_
 refine jdL ?_
 refine jdR ?_
 refine cX ?_ ?_ <;> intro h
 ·have hq : ¬ (a = 0 ∧ b = 0) := by
   exact jbk
  rw [if_pos (show seF ⟨1, t, n, a, b⟩ by simp [seF, isT, isN, isC]; omega)] at hE
  subst hE
  exact ja4
 have hq : a = 0 ∧ b = 0 := by
  exact jbk
 clear h
 rw [if_neg (show ¬ seF ⟨1, t, n, a, b⟩ by simp [seF, isT, isN, isC, *])] at hE
 rw [seV_1] at hE
 refine G [11, 1, 5] ?_
 subst hE
 refine G [4] ?_
 refine cV hH ?_
 refine jdR ?_
 exact yE
theorem check2_s (t : ByteArray) (n a b : Int) (ok : SE.OK ⟨2, t, n, a, b⟩) : Fn prog 72 [.agg (SE.cells ⟨2, t, n, a, b⟩)] (qd (seE ⟨2, t, n, a, b⟩)) [] := by
 obtain ⟨hz, hn0, hn1, ha0, ha1⟩ := ok
 dsimp only at hz hn0 hn1 ha0 ha1
 obtain ⟨E, hE⟩ : ∃ E, seE ⟨2, t, n, a, b⟩ = E := ⟨_, rfl⟩
 rw [hE]
 unfold seE at hE
 rw [if_neg (by dsimp only; decide)] at hE
 refine jd1 ?_
 have hM := mostN_s 2 qE
 refine fnI fun w0 A => ?_
 refine jeW ?_
 skip
 refine G [5] ?_
 by_cases ht : t ≠ ⟨#[]⟩
 ·rw [if_pos (show seF ⟨2, t, n, a, b⟩ by simp [seF, isT, isN, isC, *])] at hE
  exact jck
 replace ht : t = ⟨#[]⟩ := qbk.1 ht
 refine G [9, 3, 17] ?_
 refine jdL ?_
 refine jdR ?_
 refine cX ?_ ?_ <;> intro h
 ·have hq : ¬ (a = 0 ∧ b = 0) := by
   exact jbk
  rw [if_pos (show seF ⟨2, t, n, a, b⟩ by simp [seF, isT, isN, isC]; omega)] at hE
  subst hE
  exact ja4
 have hq : a = 0 ∧ b = 0 := by
  exact jbk
 clear h
 rw [if_neg (show ¬ seF ⟨2, t, n, a, b⟩ by simp [seF, isT, isN, isC, *])] at hE
 rw [seV_2] at hE
 refine G [15] ?_
 skip
 refine G [23] ?_
 by_cases hl : n < 0
 ·rw [if_pos (.inl hl)] at hE
  subst hE
  refine G [8, 4, 16, 9, 0] ?_
  exact yE
 refine G [8, 3, 5] ?_
 (first | refine zbX rfl ?_ | refine zay (fun n => 102 + 1000 * n) (hM) rfl rfl func107 rfl rfl qw rfl rfl rfl qq rfl rfl rfl ?_)
 refine G [4, 9, 0] ?_
 refine cX ?_ ?_ <;> intro h
 ·exact jcv
 have h1 : ¬ 65535 < n := qz
 clear h
 rw [if_neg (by omega)] at hE
 subst hE
 refine jdI ?_
 exact yE
theorem check3_s (t : ByteArray) (n a b : Int) (ok : SE.OK ⟨3, t, n, a, b⟩) : Fn prog 72 [.agg (SE.cells ⟨3, t, n, a, b⟩)] (qd (seE ⟨3, t, n, a, b⟩)) [] := by
 obtain ⟨hz, hn0, hn1, ha0, ha1⟩ := ok
 dsimp only at hz hn0 hn1 ha0 ha1
 obtain ⟨E, hE⟩ : ∃ E, seE ⟨3, t, n, a, b⟩ = E := ⟨_, rfl⟩
 rw [hE]
 unfold seE at hE
 rw [if_neg (by dsimp only; decide)] at hE
 refine jd2 ?_
 have hM := most3_s
 refine fnI fun w0 A => ?_
 refine jeW ?_
 skip
 refine G [5] ?_
 by_cases ht : t ≠ ⟨#[]⟩
 ·rw [if_pos (show seF ⟨3, t, n, a, b⟩ by simp [seF, isT, isN, isC, *])] at hE
  exact jck
 replace ht : t = ⟨#[]⟩ := qbk.1 ht
 by_cases hn : n ≠ 0
 ·rw [if_pos (show seF ⟨3, t, n, a, b⟩ by simp [seF, isT, isN, isC, *])] at hE
  exact jcR
 replace hn : n = 0 := qbk.1 hn
 refine G [9, 3, 7, 3, 9] ?_
 refine jdL ?_
 refine jdR ?_
 refine cX ?_ ?_ <;> intro h
 ·have hq : ¬ (a = 0 ∧ b = 0) := by
   exact jbk
  rw [if_pos (show seF ⟨3, t, n, a, b⟩ by simp [seF, isT, isN, isC]; omega)] at hE
  subst hE
  exact ja4
 have hq : a = 0 ∧ b = 0 := by
  exact jbk
 clear h
 rw [if_neg (show ¬ seF ⟨3, t, n, a, b⟩ by simp [seF, isT, isN, isC, *])] at hE
 rw [seV_3] at hE
 refine G [15] ?_
 skip
 refine G [23] ?_
 subst hE
 refine G [26, 9, 0] ?_
 exact yE
theorem check4_s (t : ByteArray) (n a b : Int) (ok : SE.OK ⟨4, t, n, a, b⟩) : Fn prog 72 [.agg (SE.cells ⟨4, t, n, a, b⟩)] (qd (seE ⟨4, t, n, a, b⟩)) [] := by
 obtain ⟨hz, hn0, hn1, ha0, ha1⟩ := ok
 dsimp only at hz hn0 hn1 ha0 ha1
 obtain ⟨E, hE⟩ : ∃ E, seE ⟨4, t, n, a, b⟩ = E := ⟨_, rfl⟩
 rw [hE]
 unfold seE at hE
 rw [if_neg (by dsimp only; decide)] at hE
 refine jd3 ?_
 have hM := most4_s
 have hH := zb2 t
 refine fnI fun w0 A => ?_
 refine G [23] ?_
 refine cK hM ?_
 refine G [24, 1, 5] ?_
 skip
 refine G [3] ?_
 by_cases hn : n ≠ 0
 ·rw [if_pos (show seF ⟨4, t, n, a, b⟩ by simp [seF, isT, isN, isC, *])] at hE
  exact jc4
 replace hn : n = 0 := qbk.1 hn
 refine G [16, 3, 9] ?_
 refine jdL ?_
 refine jdR ?_
 refine cX ?_ ?_ <;> intro h
 ·have hq : ¬ (a = 0 ∧ b = 0) := by
   exact jbk
  rw [if_pos (show seF ⟨4, t, n, a, b⟩ by simp [seF, isT, isN, isC]; omega)] at hE
  subst hE
  exact ja4
 have hq : a = 0 ∧ b = 0 := by
  exact jbk
 clear h
 rw [if_neg (show ¬ seF ⟨4, t, n, a, b⟩ by simp [seF, isT, isN, isC, *])] at hE
 rw [seV_4] at hE
 refine G [15] ?_
 skip
 refine G [1, 1, 3] ?_
 subst hE
 refine G [4] ?_
 refine cV hH ?_
 refine jdR ?_
 exact yE
theorem check5_s (t : ByteArray) (n a b : Int) (ok : SE.OK ⟨5, t, n, a, b⟩) : Fn prog 72 [.agg (SE.cells ⟨5, t, n, a, b⟩)] (qd (seE ⟨5, t, n, a, b⟩)) [] := by
 obtain ⟨hz, hn0, hn1, ha0, ha1⟩ := ok
 dsimp only at hz hn0 hn1 ha0 ha1
 obtain ⟨E, hE⟩ : ∃ E, seE ⟨5, t, n, a, b⟩ = E := ⟨_, rfl⟩
 rw [hE]
 unfold seE at hE
 rw [if_neg (by dsimp only; decide)] at hE
 refine jd4 ?_
 have hM := most5_s
 refine fnI fun w0 A => ?_
 refine jeW ?_
 skip
 refine G [5] ?_
 by_cases ht : t ≠ ⟨#[]⟩
 ·rw [if_pos (show seF ⟨5, t, n, a, b⟩ by simp [seF, isT, isN, isC, *])] at hE
  exact jck
 replace ht : t = ⟨#[]⟩ := qbk.1 ht
 by_cases hn : n ≠ 0
 ·rw [if_pos (show seF ⟨5, t, n, a, b⟩ by simp [seF, isT, isN, isC, *])] at hE
  exact jcR
 replace hn : n = 0 := qbk.1 hn
 refine G [9, 3, 7, 3, 9] ?_
 refine jdL ?_
 refine jdR ?_
 refine cX ?_ ?_ <;> intro h
 ·have hq : ¬ (a = 0 ∧ b = 0) := by
   exact jbk
  rw [if_pos (show seF ⟨5, t, n, a, b⟩ by simp [seF, isT, isN, isC]; omega)] at hE
  subst hE
  exact ja4
 have hq : a = 0 ∧ b = 0 := by
  exact jbk
 clear h
 rw [if_neg (show ¬ seF ⟨5, t, n, a, b⟩ by simp [seF, isT, isN, isC, *])] at hE
 rw [seV_5] at hE
 refine G [15] ?_
 skip
 refine G [23] ?_
 subst hE
 refine G [26, 9, 0] ?_
 exact yE
theorem check6_s (t : ByteArray) (n a b : Int) (ok : SE.OK ⟨6, t, n, a, b⟩) : Fn prog 72 [.agg (SE.cells ⟨6, t, n, a, b⟩)] (qd (seE ⟨6, t, n, a, b⟩)) [] := by
 obtain ⟨hz, hn0, hn1, ha0, ha1⟩ := ok
 dsimp only at hz hn0 hn1 ha0 ha1
 obtain ⟨E, hE⟩ : ∃ E, seE ⟨6, t, n, a, b⟩ = E := ⟨_, rfl⟩
 rw [hE]
 unfold seE at hE
 rw [if_neg (by dsimp only; decide)] at hE
 refine jd5 ?_
 have hM := most6_s
 have hH := zb2 t
 have hZ := zfC
 refine fnI fun w0 A => ?_
 refine G [23] ?_
 refine cK hM ?_
 refine G [30, 1, 5] ?_
 skip
 refine G [3] ?_
 by_cases hn : n ≠ 0
 ·rw [if_pos (show seF ⟨6, t, n, a, b⟩ by simp [seF, isT, isN, isC, *])] at hE
  exact jc4
 replace hn : n = 0 := qbk.1 hn
 refine G [16, 3, 9] ?_
 refine jdL ?_
 refine jdR ?_
 refine cX ?_ ?_ <;> intro h
 ·have hq : ¬ (a = 0 ∧ b = 0) := by
   exact jbk
  rw [if_pos (show seF ⟨6, t, n, a, b⟩ by simp [seF, isT, isN, isC]; omega)] at hE
  subst hE
  exact ja4
 have hq : a = 0 ∧ b = 0 := by
  exact jbk
 clear h
 rw [if_neg (show ¬ seF ⟨6, t, n, a, b⟩ by simp [seF, isT, isN, isC, *])] at hE
 rw [seV_6] at hE
 refine G [15] ?_
 skip
 refine G [7, 1, 10, 9, 0] ?_
 refine cX ?_ ?_ <;> intro h
 ·have h1 : t = ⟨#[]⟩ := qz
  exact jcX
 have h1 : ¬ t = ⟨#[]⟩ := qz
 clear h
 rw [if_neg h1] at hE
 refine G [6] ?_
 refine cK hZ ?_
 refine G [2, 9, 0] ?_
 refine cX ?_ ?_ <;> intro h
 ·have h2 : t = zdW := qz
  rw [if_pos h2] at hE
  subst hE
  exact ja4
 have h2 : ¬ t = zdW := qz
 rw [if_neg h2] at hE
 subst hE
 refine G [5] ?_
 refine cV hH ?_
 refine jdR ?_
 exact yE
theorem check7_s (t : ByteArray) (n a b : Int) (ok : SE.OK ⟨7, t, n, a, b⟩) : Fn prog 72 [.agg (SE.cells ⟨7, t, n, a, b⟩)] (qd (seE ⟨7, t, n, a, b⟩)) [] := by
 obtain ⟨hz, hn0, hn1, ha0, ha1⟩ := ok
 dsimp only at hz hn0 hn1 ha0 ha1
 obtain ⟨E, hE⟩ : ∃ E, seE ⟨7, t, n, a, b⟩ = E := ⟨_, rfl⟩
 rw [hE]
 unfold seE at hE
 rw [if_neg (by dsimp only; decide)] at hE
 refine jd6 ?_
 have hM := most7_s
 have hEn := end_s t hz
 obtain ⟨ea, eb, hen⟩ := enR_e t
 rw [hen] at hEn
 refine fnI fun w0 A => ?_
 refine jeW ?_
 skip
 refine G [1, 1, 3] ?_
 skip
 refine G [3] ?_
 by_cases hn : n ≠ 0
 ·rw [if_pos (show seF ⟨7, t, n, a, b⟩ by simp [seF, isT, isN, isC, *])] at hE
  exact jc4
 replace hn : n = 0 := qbk.1 hn
 refine G [16, 3, 9] ?_
 refine jdL ?_
 refine jdR ?_
 refine cX ?_ ?_ <;> intro h
 ·have hq : ¬ (a = 0 ∧ b = 0) := by
   exact jbk
  rw [if_pos (show seF ⟨7, t, n, a, b⟩ by simp [seF, isT, isN, isC]; omega)] at hE
  subst hE
  exact ja4
 have hq : a = 0 ∧ b = 0 := by
  exact jbk
 clear h
 rw [if_neg (show ¬ seF ⟨7, t, n, a, b⟩ by simp [seF, isT, isN, isC, *])] at hE
 rw [seV_7] at hE
 refine G [15] ?_
 skip
 refine G [13, 1, 3] ?_
 subst hE
 refine G [4] ?_
 refine cV hEn ?_
 refine G [14, 9, 0] ?_
 exact yE
theorem check8_s (t : ByteArray) (n a b : Int) (ok : SE.OK ⟨8, t, n, a, b⟩) : Fn prog 72 [.agg (SE.cells ⟨8, t, n, a, b⟩)] (qd (seE ⟨8, t, n, a, b⟩)) [] := by
 obtain ⟨hz, hn0, hn1, ha0, ha1⟩ := ok
 dsimp only at hz hn0 hn1 ha0 ha1
 obtain ⟨E, hE⟩ : ∃ E, seE ⟨8, t, n, a, b⟩ = E := ⟨_, rfl⟩
 rw [hE]
 unfold seE at hE
 rw [if_neg (by dsimp only; decide)] at hE
 refine jd7 ?_
 have hM := mostN_s 8 qE
 refine fnI fun w0 A => ?_
 refine jeW ?_
 skip
 refine G [5] ?_
 by_cases ht : t ≠ ⟨#[]⟩
 ·rw [if_pos (show seF ⟨8, t, n, a, b⟩ by simp [seF, isT, isN, isC, *])] at hE
  exact jck
 replace ht : t = ⟨#[]⟩ := qbk.1 ht
 refine G [9, 3, 17] ?_
 refine jdL ?_
 refine jdR ?_
 refine cX ?_ ?_ <;> intro h
 ·have hq : ¬ (a = 0 ∧ b = 0) := by
   exact jbk
  rw [if_pos (show seF ⟨8, t, n, a, b⟩ by simp [seF, isT, isN, isC]; omega)] at hE
  subst hE
  exact ja4
 have hq : a = 0 ∧ b = 0 := by
  exact jbk
 clear h
 rw [if_neg (show ¬ seF ⟨8, t, n, a, b⟩ by simp [seF, isT, isN, isC, *])] at hE
 rw [seV_8] at hE
 refine G [15] ?_
 skip
 refine G [23] ?_
 by_cases hl : n < 0
 ·rw [if_pos (.inl hl)] at hE
  subst hE
  refine G [8, 4, 16, 9, 0] ?_
  exact yE
 refine G [8, 3, 5] ?_
 (first | refine zbX rfl ?_ | refine zay (fun n => 102 + 1000 * n) (hM) rfl rfl func107 rfl rfl qw rfl rfl rfl qq rfl rfl rfl ?_)
 refine G [4, 9, 0] ?_
 refine cX ?_ ?_ <;> intro h
 ·exact jcv
 have h1 : ¬ 65535 < n := qz
 clear h
 rw [if_neg (by omega)] at hE
 subst hE
 refine jdI ?_
 exact yE
theorem check9_s (t : ByteArray) (n a b : Int) (ok : SE.OK ⟨9, t, n, a, b⟩) : Fn prog 72 [.agg (SE.cells ⟨9, t, n, a, b⟩)] (qd (seE ⟨9, t, n, a, b⟩)) [] := by
 obtain ⟨hz, hn0, hn1, ha0, ha1⟩ := ok
 dsimp only at hz hn0 hn1 ha0 ha1
 obtain ⟨E, hE⟩ : ∃ E, seE ⟨9, t, n, a, b⟩ = E := ⟨_, rfl⟩
 rw [hE]
 unfold seE at hE
 rw [if_neg (by dsimp only; decide)] at hE
 refine jd8 ?_
 have hM := most9_s
 refine fnI fun w0 A => ?_
 refine jeW ?_
 skip
 refine G [5] ?_
 by_cases ht : t ≠ ⟨#[]⟩
 ·rw [if_pos (show seF ⟨9, t, n, a, b⟩ by simp [seF, isT, isN, isC, *])] at hE
  exact jck
 replace ht : t = ⟨#[]⟩ := qbk.1 ht
 by_cases hn : n ≠ 0
 ·rw [if_pos (show seF ⟨9, t, n, a, b⟩ by simp [seF, isT, isN, isC, *])] at hE
  exact jcR
 replace hn : n = 0 := qbk.1 hn
 refine G [9, 3, 7, 3, 9] ?_
 refine jdL ?_
 refine jdR ?_
 refine cX ?_ ?_ <;> intro h
 ·have hq : ¬ (a = 0 ∧ b = 0) := by
   exact jbk
  rw [if_pos (show seF ⟨9, t, n, a, b⟩ by simp [seF, isT, isN, isC]; omega)] at hE
  subst hE
  exact ja4
 have hq : a = 0 ∧ b = 0 := by
  exact jbk
 clear h
 rw [if_neg (show ¬ seF ⟨9, t, n, a, b⟩ by simp [seF, isT, isN, isC, *])] at hE
 rw [seV_9] at hE
 refine G [15] ?_
 skip
 refine G [23] ?_
 subst hE
 refine G [26, 9, 0] ?_
 exact yE
theorem check10_s (t : ByteArray) (n a b : Int) (ok : SE.OK ⟨10, t, n, a, b⟩) : Fn prog 72 [.agg (SE.cells ⟨10, t, n, a, b⟩)] (qd (seE ⟨10, t, n, a, b⟩)) [] := by
 obtain ⟨hz, hn0, hn1, ha0, ha1⟩ := ok
 dsimp only at hz hn0 hn1 ha0 ha1
 obtain ⟨E, hE⟩ : ∃ E, seE ⟨10, t, n, a, b⟩ = E := ⟨_, rfl⟩
 rw [hE]
 unfold seE at hE
 rw [if_neg (by dsimp only; decide)] at hE
 refine jdZ ?_
 have hM := most10_s
 have hC := zcp a b ha0 ha1
 change Fn prog _ [.agg [qe a, qd b]] _ _ at hC
 refine fnI fun w0 A => ?_
 refine jeW ?_
 skip
 refine G [5] ?_
 by_cases ht : t ≠ ⟨#[]⟩
 ·rw [if_pos (show seF ⟨10, t, n, a, b⟩ by simp [seF, isT, isN, isC, *])] at hE
  exact jck
 replace ht : t = ⟨#[]⟩ := qbk.1 ht
 by_cases hn : n ≠ 0
 ·rw [if_pos (show seF ⟨10, t, n, a, b⟩ by simp [seF, isT, isN, isC, *])] at hE
  exact jcR
 replace hn : n = 0 := qbk.1 hn
 refine G [9, 3, 7, 3, 14] ?_
 rw [if_neg (show ¬ seF ⟨10, t, n, a, b⟩ by simp [seF, isT, isN, isC, *])] at hE
 rw [seV_10] at hE
 refine G [15] ?_
 skip
 refine G [19, 1, 3] ?_
 subst hE
 refine G [4] ?_
 refine cV hC ?_
 refine jdR ?_
 exact yE
theorem checkBad_s (s : SE) (hk : s.k < 1 ∨ 10 < s.k) : Fn prog 72 [.agg s.cells] (qd (seE s)) [] := by
 exact jbo
theorem zeB (s : SE) (ok : s.OK) : Fn prog 72 [.agg s.cells] (qd (seE s)) [] := by
 by_cases hk : s.k < 1 ∨ 10 < s.k
 ·exact checkBad_s s hk
 obtain ⟨k, t, n, a, b⟩ := s
 dsimp only at hk
 have : k = 1 ∨ k = 2 ∨ k = 3 ∨ k = 4 ∨ k = 5 ∨ k = 6 ∨ k = 7 ∨ k = 8 ∨ k = 9 ∨ k = 10 := qp
 rcases this with rfl | rfl | rfl | rfl | rfl | rfl | rfl | rfl | rfl | rfl
 ·exact check1_s t n a b ok
 ·exact check2_s t n a b ok
 ·exact check3_s t n a b ok
 ·exact check4_s t n a b ok
 ·exact check5_s t n a b ok
 ·exact check6_s t n a b ok
 ·exact check7_s t n a b ok
 ·exact check8_s t n a b ok
 ·exact check9_s t n a b ok
 ·exact check10_s t n a b ok
def allP : List AV → Option (List PV)
 | [] => some []
 | .p x :: l => (allP l).map (x :: ·)
 | _ :: _ => none
theorem zhb : ∀ {xs : List AV} {cs : List PV}, allP xs = some cs → xs = cs.map AV.p
 | [], cs, h => by simp only [allP, Option.some.injEq] at h; subst h; rfl
 | a :: xs, cs, h => by
  cases a with
  | p x =>
   simp only [allP] at h
   cases hq : allP xs with
   | none => simp [hq] at h
   | some zs =>
    simp only [hq, qcQ, Option.some.injEq] at h
    subst h
    simp [zhb hq]
  | _ => simp [allP] at h
structure Fz where
 o : Nat
 P : Option (List PV)
 R : Option PV
 V : Option (List PV)
mutual
def fzA (f : Fz) : AV → AV
 | .p x => .p x
 | .agg cs => .agg (fzL f cs)
 | .tup cs => .tup (fzL f cs)
 | .ptr cs => .ptr cs
 | .ref o off => match f.P with
  | some cs => bif (Nat.beq o f.o && Nat.beq off 0) then .p (.pt cs) else .ref o off
  | none => match f.V with
   | some cs => bif Nat.beq o f.o then .ptr (cs.drop off) else .ref o off
   | none => .ref o off
 | .row o => match f.R with
  | some x => bif Nat.beq o f.o then .p x else .row o
  | none => .row o
 | .psl o off n size => .psl o off n size
 | .pslc o n => .pslc o n
 | .fn g cs => .fn g (fzL f cs)
 | .mb b x => .mb b (fzA f x)
 | .sat p => .sat p
 | .mp o => .mp o
 | .any => .any
def fzL (f : Fz) : List AV → List AV
 | [] => []
 | c :: cs => fzA f c :: fzL f cs
end
def fzS (f : Fz) : Slot → Slot
 | .live (.box ty cs) => .live (.box ty (fzL f cs))
 | .live (.rowA e size n c cs) => .live (.rowA e size n c (fzL f cs))
 | s => s
def St.fz (st : St) (f : Fz) : St := ⟨fun t => fzA f (st.tmps t), fun o => bif Nat.beq o f.o then .dead else fzS f (st.heap o)⟩
section
variable {S S' : Nat → Prop} {m : Nat → Option Value} {w : World} {f : Fz} {v0 : Value}
mutual
theorem fzA_rep (hs : ∀ b, S b → S' b) (hm : m f.o = some v0) (hP : ∀ cs b, f.P = some cs → blk v0 = some b → PRep S' w (.pt cs) (.pointer (some ⟨b, 0, none⟩))) (hR : ∀ x, f.R = some x → PRep S' w x v0) (hV : ∀ cs b, f.V = some cs → blk v0 = some b → PRep S' w (.pt cs) (.pointer (some ⟨b, 0, none⟩))) : ∀ (x : AV) (u : Value), Rep S m w x u → Rep S' m w (fzA f x) u
 | .p x, u, h => by simp only [fzA, Rep] at h ⊢; exact PRep.mono hs (fun _ _ => rfl) _ _ h
 | .agg cs, u, h => by
  simp only [fzA, Rep] at h ⊢
  obtain ⟨us, h1, h2, h3⟩ := h
  exact ⟨us, h1, zgv hs hm hP hR hV cs us h2, h3⟩
 | .tup cs, u, h => by
  simp only [fzA, Rep] at h ⊢
  obtain ⟨us, h1, h2⟩ := h
  exact ⟨us, h1, zgv hs hm hP hR hV cs us h2⟩
 | .ptr cs, u, h => by
  simp only [fzA, Rep] at h ⊢
  obtain ⟨b, off, vs, h1, h2, h3, h4⟩ := h
  exact ⟨b, off, vs, h1, hs b h2, PRepL.mono hs (fun _ _ => rfl) _ _ h3, h4⟩
 | .ref o off, u, h => by
  unfold fzA
  cases hq : f.P with
  | none =>
   simp only []
   cases hv : f.V with
   | none => simp only [Rep] at h ⊢; exact h
   | some cs =>
    simp only []
    cases hc : Nat.beq o f.o with
    | false => simp only [cond_false, Rep] at h ⊢; exact h
    | true =>
     have h1 : o = f.o := qbf hc
     subst h1
     simp only [cond_true, Rep] at h ⊢
     obtain ⟨b, v1, h3, h4, rfl⟩ := h
     rw [hm] at h3
     obtain rfl := Option.some.inj h3
     have h5 := hV cs b hv h4
     simp only [PRep] at h5
     obtain ⟨b', o', vs, e1, e2, e3, e4⟩ := h5
     simp only [Value.pointer.injEq, Option.some.injEq, Addr.mk.injEq] at e1
     obtain ⟨rfl, rfl, _⟩ := e1
     refine ⟨b, off, vs.drop off, rfl, e2, e3.drop off, fun j v hj => ?_⟩
     rw [qbN] at hj
     have := e4 _ v hj
     rwa [Nat.zero_add] at this
  | some cs =>
   simp only []
   cases hc : (Nat.beq o f.o && Nat.beq off 0) with
   | false => simp only [cond_false, Rep] at h ⊢; exact h
   | true =>
    simp only [qbv] at hc
    have h1 : o = f.o := qbf hc.1
    have h2 : off = 0 := qbf hc.2
    subst h1; subst h2
    simp only [cond_true, Rep] at h ⊢
    obtain ⟨b, v1, h3, h4, rfl⟩ := h
    rw [hm] at h3
    obtain rfl := Option.some.inj h3
    exact hP cs b hq h4
 | .row o, u, h => by
  unfold fzA
  cases hq : f.R with
  | none => simp only [Rep] at h ⊢; exact h
  | some x =>
   simp only []
   cases hc : Nat.beq o f.o with
   | false => simp only [cond_false, Rep] at h ⊢; exact h
   | true =>
    have h1 : o = f.o := qbf hc
    subst h1
    simp only [cond_true, Rep] at h ⊢
    have h3 := h.1
    rw [hm] at h3
    obtain rfl := Option.some.inj h3
    exact hR x hq
 | .psl o off n sz, u, h => by simp only [fzA, Rep] at h ⊢; exact h
 | .pslc o n, u, h => by simp only [fzA, Rep] at h ⊢; exact h
 | .fn g cs, u, h => by
  simp only [fzA, Rep] at h ⊢
  obtain ⟨us, h1, h2⟩ := h
  exact ⟨us, h1, zgv hs hm hP hR hV cs us h2⟩
 | .mb b x, u, h => by
  simp only [fzA, Rep] at h ⊢
  exact ⟨fun hb => fzA_rep hs hm hP hR hV x u (h.1 hb), h.2⟩
 | .sat sp, u, h => by simpa only [fzA, Rep] using h
 | .mp o, u, h => by simp only [fzA, Rep] at h ⊢; exact h
 | .any, u, h => by simp only [fzA, Rep]
theorem zgv (hs : ∀ b, S b → S' b) (hm : m f.o = some v0) (hP : ∀ cs b, f.P = some cs → blk v0 = some b → PRep S' w (.pt cs) (.pointer (some ⟨b, 0, none⟩))) (hR : ∀ x, f.R = some x → PRep S' w x v0) (hV : ∀ cs b, f.V = some cs → blk v0 = some b → PRep S' w (.pt cs) (.pointer (some ⟨b, 0, none⟩))) : ∀ (x : List AV) (u : List Value), RepL S m w x u → RepL S' m w (fzL f x) u
 | [], u, h => by simpa [fzL, RepL] using h
 | c :: cs, u, h => by
  simp only [fzL, RepL] at h ⊢
  obtain ⟨u, us, h1, h2, h3⟩ := h
  exact ⟨u, us, h1, fzA_rep hs hm hP hR hV c u h2, zgv hs hm hP hR hV cs us h3⟩
end
end
theorem sim_fz {w0 : World} {A : Ctx} {nt : Nat} {st : St} {a : Act} {w : World} {f : Fz} {ob : AObj} (h : st.heap f.o = .live ob)
 (key : ∀ S m v, Mem w0 A.A S m st.heap w → m f.o = some v → ORep w0.heap.size S m w ob v → (∀ cs b, f.P = some cs → blk v = some b → PRep (fun x => S x ∨ blk v = some x) w (.pt cs) (.pointer (some ⟨b, 0, none⟩))) ∧ (∀ x, f.R = some x → PRep (fun x => S x ∨ blk v = some x) w x v) ∧ (∀ cs b, f.V = some cs → blk v = some b → PRep (fun x => S x ∨ blk v = some x) w (.pt cs) (.pointer (some ⟨b, 0, none⟩))))
 (hs : Sim w0 A nt st a w) : Sim w0 A nt (st.fz f) a w := by
 obtain ⟨⟨S, m, hm, hj, ht⟩, hsz, hd⟩ := hs
 obtain ⟨v, hv, hO, hnS⟩ := hm.live _ _ h
 obtain ⟨hP, hR, hV⟩ := key S m v hm hv hO
 have hss : ∀ b, S b → (fun x => S x ∨ blk v = some x) b := fun b hb => .inl hb
 have hlv : ∀ o s, (st.fz f).heap o = s → s ≠ .dead → o ≠ f.o ∧ s = fzS f (st.heap o) := fun o s ho hn => by
  have e : (bif Nat.beq o f.o then Slot.dead else fzS f (st.heap o)) = s := ho
  by_cases hoo : o = f.o
  ·subst hoo; simp only [qca, cond_true] at e; exact absurd e.symm hn
  ·rw [nbeq hoo, cond_false] at e; exact ⟨hoo, e.symm⟩
 have hfl : ∀ s ob', fzS f s = .live ob' → ∃ ob, s = .live ob ∧ (ob' = ob ∨ (∃ ty cs, ob = .box ty cs ∧ ob' = .box ty (fzL f cs)) ∨ ∃ e size n c cs, ob = .rowA e size n c cs ∧ ob' = .rowA e size n c (fzL f cs)) := fun s ob' hq => by
  cases s with
  | un => cases hq
  | dead => cases hq
  | live ob =>
   cases ob with
   | box ty cs => simp only [fzS, Slot.live.injEq] at hq; exact ⟨_, rfl, .inr (.inl ⟨ty, cs, rfl, hq.symm⟩)⟩
   | rowA e size n c cs => simp only [fzS, Slot.live.injEq] at hq; exact ⟨_, rfl, .inr (.inr ⟨e, size, n, c, cs, rfl, hq.symm⟩)⟩
   | row e size n cs => simp only [fzS, Slot.live.injEq] at hq; exact ⟨_, rfl, .inl hq.symm⟩
   | map es => simp only [fzS, Slot.live.injEq] at hq; exact ⟨_, rfl, .inl hq.symm⟩
 have g : Grow S m w (fun x => S x ∨ blk v = some x) m w := ⟨hss, fun _ _ => rfl, fun _ _ h => h⟩
 refine ⟨⟨_, m, ⟨hm.bel, ?_, ?_, ?_, ?_, ?_, hm.gl⟩, A.up _ _ _ _ _ _ g hj, fun t => fzA_rep hss hv hP hR hV _ _ (ht t)⟩, hsz, hd⟩
 ·rintro b (hb | hb)
  ·exact hm.sA b hb
  ·exact .inr (hO.lt hb).1
 ·rintro b (hb | hb)
  ·exact hm.sW b hb
  ·exact (hO.lt hb).2
 ·intro o ho
  obtain ⟨_, h2⟩ := hlv o _ ho qC
  refine hm.un o ?_
  cases hq : st.heap o with
  | un => rfl
  | dead => rw [hq] at h2; cases h2
  | live ob => rw [hq] at h2; cases ob <;> cases h2
 ·intro o ob' ho
  obtain ⟨h1, h2⟩ := hlv o _ ho qC
  obtain ⟨ob1, h3, h4⟩ := hfl _ _ h2.symm
  obtain ⟨v1, g1, g2, g3⟩ := hm.live o ob1 h3
  refine ⟨v1, g1, ?_, ?_⟩
  ·rcases h4 with rfl | ⟨ty, cs, rfl, rfl⟩ | ⟨e, size, n, c, cs, rfl, rfl⟩
   ·exact ORep.mono g g2 fun _ _ => rfl
   rotate_left
   ·obtain ⟨us, q1, q2, q3⟩ := g2
    exact ⟨us, zgv hss hv hP hR hV _ _ q1, q2, q3⟩
   ·obtain ⟨b, us, q1, q2, q3, q4, q5⟩ := g2
    exact ⟨b, us, q1, q2, zgv hss hv hP hR hV _ _ q3, q4, q5⟩
  ·rintro b hb (hS | hS)
   ·exact g3 b hb hS
   ·exact h1 (hm.inj o f.o _ _ _ _ b h3 h g1 hv hb hS)
 ·intro o o' ob1 ob2 v1 v2 b ho ho' g1 g2 k1 k2
  obtain ⟨_, h2⟩ := hlv o _ ho qC
  obtain ⟨ob3, h3, _⟩ := hfl _ _ h2.symm
  obtain ⟨_, h5⟩ := hlv o' _ ho' qC
  obtain ⟨ob4, h6, _⟩ := hfl _ _ h5.symm
  exact hm.inj o o' _ _ _ _ b h3 h6 g1 g2 k1 k2
theorem zeo {st : St} (o : Nat) {ty : TypeId} {xs : List AV} {cs : List PV} (h : st.heap o = qj ty xs) (ha : allP xs = some cs) : ReO st (st.fz ⟨o, some cs, none, none⟩) := by
 intro w0 A nt a w hs
 refine sim_fz h (fun S m v hm hv hO => ⟨fun cs' b e hb => ?_, fun x e => (by cases e), fun cs' b e hb => (by cases e)⟩) hs
 exact jbK
theorem reo_fzV {st : St} (o : Nat) {ty : TypeId} {xs : List AV} {cs : List PV} (h : st.heap o = qj ty xs) (ha : allP xs = some cs) : ReO st (st.fz ⟨o, none, none, some cs⟩) := by
 intro w0 A nt a w hs
 refine sim_fz h (fun S m v hm hv hO => ⟨fun cs' b e hb => (by cases e), fun x e => (by cases e), fun cs' b e hb => ?_⟩) hs
 exact jbK
theorem zcL {st : St} (o : Nat) {e size n : Nat} {cs : List PV} (h : st.heap o = qk e size n cs) : ReO st (st.fz ⟨o, none, some (.sl n size cs), none⟩) := by
 intro w0 A nt a w hs
 refine sim_fz h (fun S m v hm hv hO => ⟨fun cs' b e hb => (by cases e), fun x e => ?_, fun cs' b e hb => (by cases e)⟩) hs
 simp only [Option.some.injEq] at e
 subst e
 obtain ⟨us, h1, h2⟩ := hO
 have hl := h1.length
 have hr2 := fun b hb => zbM h2 (b := b) hb
 simp only [PRep]
 rcases h2.2 with ⟨rfl, rfl⟩ | ⟨g, cap, cur, fz, rfl, _, hh, _, h8, h9, _, h10⟩
 ·exact ⟨none, 0, us, rfl, Nat.le_refl _, by rw [← hl, h2.1], PRepL.mono (fun _ h => .inl h) (fun _ _ => rfl) _ _ h1, .inl rfl⟩
 ·exact ⟨some ⟨g, 0, none⟩, cap, us, rfl, h8, by rw [← hl, h2.1], PRepL.mono (fun _ h => .inl h) (fun _ _ => rfl) _ _ h1, .inr ⟨g, 0, rfl, .inr rfl, hr2 g rfl⟩⟩
theorem zeC {P : Program} {w0 : World} {A : Ctx1} {nt : Nat} {id : Nat} {c d : Code} {Q : Exit → St → Prop} {st : St} (st1 : St) (h : awp ⟨P, w0, ctx0 A, nt⟩ c (InB id (Thn (fun st' => Re st' st1) Q)) st) (k : awp ⟨P, w0, ctx0 A, nt⟩ d Q st1) : awp ⟨P, w0, ctx0 A, nt⟩ c (InB id (Thn (awp ⟨P, w0, ctx0 A, nt⟩ d Q) Q)) st :=
 zjl h fun e st' he => by
  cases e with
  | normal => exact zaK he k
  | exit j =>
   simp only [InB] at he ⊢
   split at he
   ·rename_i hj; rw [if_pos hj]; exact zaK he k
   ·rename_i hj; rw [if_neg hj]; exact he
  | _ => exact he
theorem za7 {G : Env} {c : Code} {Q : Exit → St → Prop} {st st' : St} (r : ReO st st') (h : awp G c Q st') : Thn (awp G c Q) Q .normal st := zaX r h
end Go.Proofs.YtlfjpippeeikdaaGreatDoor
