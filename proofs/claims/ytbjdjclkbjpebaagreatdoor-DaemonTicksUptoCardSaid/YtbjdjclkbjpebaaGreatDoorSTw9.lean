/- The references' StateOf and StatesMost, and the law TableSeeks, over data. -/
import Derived.Test.YtbjdjclkbjpebaaGreatDoorSTab5
import Derived.Test.YtbjdjclkbjpebaaGreatDoorSEq2
import Derived.Test.YtbjdjclkbjpebaaGreatDoorSTw5
import Derived.Test.YtbjdjclkbjpebaaGreatDoorSTrY
import Derived.Test.YtbjdjclkbjpebaaGreatDoorSDm1
namespace Go.Proofs.YtbjdjclkbjpebaaGreatDoor
open Go.RowKit Go.Sort
set_option maxHeartbeats 16000000
set_option linter.unusedVariables false
set_option linter.unusedSimpArgs false
set_option maxRecDepth 100000
set_option maxRecDepth 100000 in
theorem given6_s (X : List AV) (a b c d : Int) (h5 : X[5]? = some (.p (.v (.int .i64 a)))) (h16 : X[16]? = some (.p (.v (.int .i64 b)))) (h27 : X[27]? = some (.p (.v (.int .i64 c)))) (h36 : X[36]? = some (.p (.v (.int .i64 d)))) :
  Fn Tryz.prog 77 [.agg X] (.row 0) [(0, .row 3 1 4 (is [a, b, c, d]))] := by
 refine zb7 Tryz.func77 rfl (Nat.le_of_ble_eq_true rfl) fun w0 A => ?_
 refine zad (zaF (by kernel_rfl) ?_)
 (refine zab (a_box (X := .agg _) 1 rfl) rfl rfl ⟨rfl, trivial⟩ ?_)
 (refine zaa (zaw (r := .p _)) rfl rfl ?_)
 refine zac (zad (zaF (by kernel_rfl) ?_))
 (refine zaa (zat zg9 rfl) rfl rfl ?_)
 (refine zaa (zat fi51_0 rfl) rfl rfl ?_)
 (refine zaa (zat zhS rfl) rfl rfl ?_)
 (refine zab (zcs Tryz.underlying3 rfl (by first | rfl | assumption)) rfl rfl ⟨rfl, trivial⟩ ?_)
 (refine zaa (zat zg9 rfl) rfl rfl ?_)
 (refine zaa (zat fi51_1 rfl) rfl rfl ?_)
 (refine zaa (zat zhS rfl) rfl rfl ?_)
 (refine zab (zcs Tryz.underlying3 rfl (by first | rfl | assumption)) rfl rfl ⟨rfl, trivial⟩ ?_)
 (refine zaa (zat zg9 rfl) rfl rfl ?_)
 (refine zaa (zat fi51_2 rfl) rfl rfl ?_)
 (refine zaa (zat zhS rfl) rfl rfl ?_)
 (refine zab (zcs Tryz.underlying3 rfl (by first | rfl | assumption)) rfl rfl ⟨rfl, trivial⟩ ?_)
 (refine zaa (zat fi56_3 rfl) rfl rfl ?_)
 (refine zaa (zat fi53_1 rfl) rfl rfl ?_)
 (refine zab (zcs Tryz.underlying3 rfl (by first | rfl | assumption)) rfl rfl ⟨rfl, trivial⟩ ?_)
 (refine zab (zae 18 Tryz.underlying115 sz3 zc3 (Nat.le_of_ble_eq_true rfl) (Nat.le_of_ble_eq_true rfl) rfl rfl rfl rfl (Nat.le_of_ble_eq_true rfl)) rfl rfl ⟨rfl, trivial⟩ ?_)
 (refine zaa (zaw (r := .row _)) rfl rfl ?_)
 refine zac (zaE (⟨(by first | exact .inl rfl | exact .inr rfl), _, (fun _ => 18), (.tmp _ _ _ _ rfl .nil), ?_, rfl, ?_, rfl⟩))
 ·rfl
 ·exact ⟨⟨rfl, rfl⟩, trivial⟩
theorem mx_l5 {n : Int} (hn : 0 ≤ n) (q : Four) : mx n q.l5 = mx n q.l4 := by
 show mx (max n 0) q.l4 = mx n q.l4
 rw [show max n 0 = n by omega]
set_option maxRecDepth 100000 in
theorem statesMost_s (L : List (List PV)) (Q : List Four) (N : Nat) (hL : L.length = N) (hQ : Q.length = N) (hm : N ≤ 9223372036854775807) (hst : ∀ (k : Nat) e q, L[k]? = some e → Q[k]? = some q → StP e q) :
    Fn Tryz.prog 40 [.p (.sl N 41 L.flatten)] (.p (.v (.int .i64 (most Q)))) [] := by
  have hlen : ∀ e ∈ L, e.length = 41 := by
    intro e he
    obtain ⟨k, hk, rfl⟩ := List.mem_iff_getElem.1 he
    exact (hst k _ (Q[k]'(by omega)) (List.getElem?_eq_getElem hk) (List.getElem?_eq_getElem (by omega))).len
  refine zb7 Tryz.func40 rfl (Nat.le_of_ble_eq_true rfl) fun w0 A => ?_
  refine zad (zaF (by kernel_rfl) ?_)
  (refine zaa (zaw (r := .p _)) rfl rfl ?_)
  refine zac (zad (zaF (by kernel_rfl) ?_))
  (refine zaa (zaw (r := .p _)) rfl rfl ?_)
  refine zac (zad (zad (zaF (by kernel_rfl) ?_)))
  (refine zaa (zav (r := .p _)) rfl rfl ?_)
  (refine zaa (zdu Tryz.underlying26) rfl rfl ?_)
  (refine zaa (zav (r := .p _)) rfl rfl ?_)
  refine zac (zao (zag (fun m st => ∃ k : Nat, m + k = N ∧ st = St.of [(3, .p (.v (.int .i64 (most (Q.take k))))), (8, .p (.sl N 41 L.flatten)), (9, .p (.v (.int .i64 N))), (10, .p (.v (.int .i64 k)))] []) N ?_ ?_))
  · refine ⟨_, zah id _ _ ?_ ?_ rfl, 0, by omega, rfl⟩
    · (repeat (first | exact trivial | (refine ⟨⟨(by first | rfl | (simp; done) | (simp; omega)), rfl⟩, ?_⟩)))
    · exact trivial
  rintro m st ⟨k, hk, rfl⟩
  refine zad (zaF (by kernel_rfl) ?_)
  (refine zaa zcI rfl rfl ?_)
  refine zac (zad (zaJ _ rfl (fun h => ?_) (fun h => ?_)))
  · have hlt : k < N := by simpa using h
    clear h
    obtain ⟨e, he⟩ : ∃ e, L[k]? = some e := ⟨L[k]'(by omega), List.getElem?_eq_getElem (by omega)⟩
    obtain ⟨q, hq⟩ : ∃ q, Q[k]? = some q := ⟨Q[k]'(by omega), List.getElem?_eq_getElem (by omega)⟩
    obtain ⟨g0, g5, g16, g27, g36⟩ := hst k e q he hq
    obtain ⟨f1, f2⟩ := flat_at hlen he
    have f3 : 41 ≤ (L.flatten.drop (k * 41)).length := by rw [List.length_drop]; omega
    have k5 : (e.map AV.p)[5]? = some (.p (.v (.int .i64 q.1))) := by simp [g5]
    have k16 : (e.map AV.p)[16]? = some (.p (.v (.int .i64 q.2.1))) := by simp [g16]
    have k27 : (e.map AV.p)[27]? = some (.p (.v (.int .i64 q.2.2.1))) := by simp [g27]
    have k36 : (e.map AV.p)[36]? = some (.p (.v (.int .i64 q.2.2.2))) := by simp [g36]
    refine zap (zad (zao (zad (zaF (by kernel_rfl) ?_))))
    (refine zaa (zaM Tryz.underlying26 sz56 (by omega) (by omega) (by rw [Int.toNat_natCast])) rfl rfl ?_)
    (refine zaa (zaI Tryz.underlying56 rfl sz56 f3 (f1)) rfl rfl ?_)
    (refine zab (zaX 5 zr56 rfl) rfl rfl ⟨rfl, trivial⟩ ?_)
    (refine zab (zaf (Y := .agg _) sz56 rfl (by first | exact Nat.eq_of_beq_eq_true rfl | (simp only [AV.cells, List.length_map]; first | assumption | omega)) (Nat.eq_of_beq_eq_true rfl)) rfl rfl ⟨rfl, trivial⟩ ?_)
    refine zac (zad (zaF (by kernel_rfl) ?_))
    (refine zab (zak Tryz.underlying56 rfl sz56 (by first | exact Nat.le_of_ble_eq_true rfl | omega | (simp only [AV.cells, List.length_map]; omega)) (by first | exact zcC (by first | assumption | exact Nat.eq_of_beq_eq_true rfl | (simp only [AV.cells, List.length_map]; first | assumption | omega)) | (simp only [List.take_succ_cons, List.take_zero, List.drop_succ_cons, List.drop_zero]; rfl) | rfl)) rfl rfl ⟨rfl, trivial⟩ ?_)
    (refine zbO (fun n => 15 + 1000 * n) (given6_s _ _ _ _ _ k5 k16 k27 k36) rfl rfl Tryz.func77 rfl rfl (by first | rfl | simp [AV.okInL, AV.okIn, zay]) rfl rfl rfl (by first | exact trivial | exact ⟨rfl, trivial⟩ | exact ⟨rfl, rfl, trivial⟩ | exact ⟨rfl, rfl, rfl, rfl, rfl, trivial⟩) rfl rfl rfl ?_)
    (refine zab (a_lenR Tryz.underlying115) rfl rfl ⟨rfl, trivial⟩ ?_)
    (refine zaa (zav (r := .p _)) rfl rfl ?_)
    refine zac (zao (zag (fun m2 st => ∃ j : Nat, m2 + j = 4 ∧ st = St.of [(3, .p (.v (.int .i64 (mx (most (Q.take k)) (q.l4.take j))))), (8, .p (.sl N 41 L.flatten)), (9, .p (.v (.int .i64 N))), (10, .p (.v (.int .i64 k))), (15, .row 15), (16, .p (.v (.int .i64 4))), (17, .p (.v (.int .i64 j)))] [(15, .row 3 1 4 (is q.l4))]) 4 ?_ ?_))
    · refine ⟨_, zah id _ _ ?_ ?_ rfl, 0, by omega, rfl⟩
      · (repeat (first | exact trivial | (refine ⟨⟨(by first | rfl | (simp; done) | (simp; omega)), rfl⟩, ?_⟩)))
      · exact ⟨⟨rfl, rfl⟩, trivial⟩
    rintro m2 st ⟨j, hj, rfl⟩
    refine zad (zaF (by kernel_rfl) ?_)
    (refine zaa zcI rfl rfl ?_)
    refine zac (zad (zaJ _ rfl (fun h => ?_) (fun h => ?_)))
    · have hj4 : j < 4 := by have : (j : Int) < 4 := by simpa using h
                             omega
      clear h
      have hx4 : j < q.l4.length := hj4
      have hat := is_at hx4
      refine zap (zad (zao (zad (zaF (by kernel_rfl) ?_))))
      (refine zab (zan Tryz.underlying115 sz3 (by omega) (by omega) (by first | (simp only [Int.toNat_natCast, Nat.mul_one, Nat.zero_add]; rfl) | rfl)) rfl rfl ⟨rfl, trivial⟩ ?_)
      (refine zab (zaO Tryz.underlying3 rfl (by first | rfl | assumption | ((try simp only [List.getElem?_drop, List.getElem?_take, Int.toNat_natCast, Nat.mul_one, Nat.add_zero, Nat.zero_add]); first | assumption | rfl))) rfl rfl ⟨rfl, trivial⟩ ?_)
      (refine zaa (zaw (r := .p _)) rfl rfl ?_)
      refine zac (zad (zaF (by kernel_rfl) ?_))
      (refine zaa (zav (r := .p _)) rfl rfl ?_)
      (refine zaa (zav (r := .p _)) rfl rfl ?_)
      (refine zaa a_gtr rfl rfl ?_)
      refine zac (zaz (zaJ _ rfl (fun h => ?_) (fun h => ?_)))
      · have h2 : mx (most (Q.take k)) (q.l4.take j) < q.l4[j] := by simpa using h
        have h3 := mx_take (n := most (Q.take k)) hx4
        rw [show max (mx (most (Q.take k)) (q.l4.take j)) q.l4[j] = q.l4[j] by omega] at h3
        skip
        refine zaF (by kernel_rfl) ?_
        (refine zaa (zav (r := .p _)) rfl rfl ?_)
        (refine zaa (zaw (r := .p _)) rfl rfl ?_)
        refine zac (zbz (zaz (zaF (by kernel_rfl) ?_)))
        (refine zaa (za3 (by first | exact IntWalk.i64_in _ (by omega) | rfl)) rfl rfl ?_)
        (refine zaa (zav (r := .p _)) rfl rfl ?_)
        refine zac (zaz (⟨m2 - 1, by omega, _, zah id _ _ ?_ ?_ rfl, j + 1, by omega, rfl⟩))
        · rw [← h3]
          (repeat (first | exact trivial | (refine ⟨⟨(by first | rfl | (simp; done) | (simp; omega)), rfl⟩, ?_⟩)))
        · exact ⟨⟨rfl, rfl⟩, trivial⟩
      · have h2 : ¬ mx (most (Q.take k)) (q.l4.take j) < q.l4[j] := by simpa using h
        have h3 := mx_take (n := most (Q.take k)) hx4
        rw [show max (mx (most (Q.take k)) (q.l4.take j)) q.l4[j] = mx (most (Q.take k)) (q.l4.take j) by omega] at h3
        refine zap (zbz (zaz (zaF (by kernel_rfl) ?_)))
        (refine zaa (za3 (by first | exact IntWalk.i64_in _ (by omega) | rfl)) rfl rfl ?_)
        (refine zaa (zav (r := .p _)) rfl rfl ?_)
        refine zac (zaz (⟨m2 - 1, by omega, _, zah id _ _ ?_ ?_ rfl, j + 1, by omega, rfl⟩))
        · rw [← h3]
          (repeat (first | exact trivial | (refine ⟨⟨(by first | rfl | (simp; done) | (simp; omega)), rfl⟩, ?_⟩)))
        · exact ⟨⟨rfl, rfl⟩, trivial⟩
    · have hj4 : ¬ j < 4 := by have : ¬ (j : Int) < 4 := by simpa using h
                               omega
      obtain rfl : j = 4 := by omega
      refine zaN (zct (zct (zcR (zbz (zaz (zaF (by kernel_rfl) ?_))))))
      (refine zaa (za3 (by first | exact IntWalk.i64_in _ (by omega) | rfl)) rfl rfl ?_)
      (refine zaa (zav (r := .p _)) rfl rfl ?_)
      refine zac (zaz (⟨m - 1, by omega, _, zah id _ _ ?_ ?_ rfl, k + 1, by omega, rfl⟩))
      · rw [← most_take hq, mx_l5 (most_nn _)]
        (repeat (first | exact trivial | (refine ⟨⟨(by first | rfl | (simp; done) | (simp; omega)), rfl⟩, ?_⟩)))
      · exact trivial
  · have hge : ¬ k < N := by simpa using h
    refine zaN (zad (zaF (by kernel_rfl) ?_))
    (refine zaa (zav (r := .p _)) rfl rfl ?_)
    (refine zaa (zaw (r := .p _)) rfl rfl ?_)
    refine zac (zaE (⟨(by first | exact .inl rfl | exact .inr rfl), _, (fun o => o), (.tmp _ _ _ _ rfl .nil), ?_, rfl, ?_, rfl⟩))
    · rw [List.take_of_length_le (show Q.length ≤ k by omega)]; first | done | (refine (?_ : _ = _); kernel_rfl)
    · exact trivial
def nkey (n : NtP) : Key := zhq n.1.toNat n.2.toNat
structure TM (T : TR) (M : List (Key × Own)) : Prop where
 v : T.valid
 s : T.short
 p : M.Perm T.pairs
 l : T.list.length ≤ 2 * M.length
 k : ∀ x ∈ M, x.1.length ≤ 32
 o : ∀ x ∈ M, x.2.size ≤ 140737488351232
theorem TM.nil : TM .nil [] := ⟨trivial, trivial, .nil, Nat.le_refl _, by simp, by simp⟩
theorem TM.put {T : TR} {M : List (Key × Own)} (h : TM T M) {n : Key} {o : Own} (hn : n.length ≤ 32) (ho : o ≠ noOwn) (hz : o.size ≤ 140737488351232) (hk : ∀ x ∈ M, x.1 ≠ n) : TM (T.put n o) (M ++ [(n, o)]) := by
 have hp := TR.put_pairs (n := n) h.v ho
 rw [zdU (fun x hx => hk x (h.p.mem_iff.2 hx))] at hp
 refine ⟨(TR.put_valid h.v ho).1, put_short h.v h.s hn ho, ?_, ?_, ?_, ?_⟩
 ·exact (List.perm_append_singleton _ _).trans ((List.Perm.cons _ h.p).trans hp.symm)
 ·have := TR.put_len T n o
  have := h.l
  rw [List.length_append]
  simp only [List.length_cons, List.length_nil]
  omega
 ·intro x hx
  rcases List.mem_append.1 hx with hx | hx
  ·exact h.k x hx
  ·have : x = (n, o) := by simpa using hx
   rw [this]; exact hn
 ·intro x hx
  rcases List.mem_append.1 hx with hx | hx
  ·exact h.o x hx
  ·have : x = (n, o) := by simpa using hx
   rw [this]; exact hz
theorem TM.ok {T : TR} {M : List (Key × Own)} (h : TM T M) (hM : M.length ≤ 1000) : ∀ x ∈ T.list, x.OK :=
 TR.list_ok h.s (fun x hx => h.o x (h.p.mem_iff.2 hx)) (by have := h.l; omega)
theorem TM.grown {T : TR} {M : List (Key × Own)} (h : TM T M) : grownL M = T.list := grownL_tree h.v h.p
theorem zfI {a b : Int} (h0 : 0 ≤ a) (h1 : a < 4294967296) (hf : zai a b = 0) : (nkey (a, b)).length ≤ 32 ∧ a = zaA (nkey (a, b)) ∧ b = ((nkey (a, b)).length : Int) :=
 ND.keyed (x := ⟨a, b, noOwn, 0⟩) h0 h1 hf
theorem nkey_inj {n m : NtP} (hn : ntOK n) (hm : ntOK m) (fn : zai n.1 n.2 = 0) (fm : zai m.1 m.2 = 0) (h : nkey n = nkey m) : n = m := by
 obtain ⟨a, b⟩ := n
 obtain ⟨c, d⟩ := m
 obtain ⟨_, h1, h2⟩ := zfI hn.1 hn.2 fn
 obtain ⟨_, h3, h4⟩ := zfI hm.1 hm.2 fm
 rw [h] at h1 h2
 have e1 : a = c := h1.trans h3.symm
 have e2 : b = d := h2.trans h4.symm
 rw [e1, e2]
def zbi (p : PE) (j : Nat) : List (Key × Own) := (p.nets.take j).map fun n => (nkey n, p.key)
def zaD (l : List PE) (i : Nat) : List (Key × Own) := (l.take i).flatMap fun p => p.nets.map fun n => (nkey n, p.key)
theorem zeW {l : List PE} {i : Nat} {p : PE} (h : l[i]? = some p) : zaD l (i + 1) = zaD l i ++ zbi p p.nets.length := by
 obtain ⟨h1, h2⟩ := List.getElem?_eq_some_iff.1 h
 unfold zaD zbi
 rw [List.take_succ_eq_append_getElem h1, h2, List.flatMap_append, List.take_length]
 simp
theorem zeU {p : PE} {j : Nat} {n : NtP} (h : p.nets[j]? = some n) : zbi p (j + 1) = zbi p j ++ [(nkey n, p.key)] := by
 obtain ⟨h1, h2⟩ := List.getElem?_eq_some_iff.1 h
 unfold zbi
 rw [List.take_succ_eq_append_getElem h1, h2, List.map_append]
 rfl
theorem pairs_keys (l : List PE) (i : Nat) (p : PE) (j : Nat) : ∀ x ∈ zaD l i ++ zbi p j, ∃ m, m ∈ zcj l i ++ p.nets.take j ∧ x.1 = nkey m := by
 intro x hx
 rcases List.mem_append.1 hx with hx | hx
 ·unfold zaD at hx
  obtain ⟨q, hq, hx⟩ := List.mem_flatMap.1 hx
  obtain ⟨m, hm, rfl⟩ := List.mem_map.1 hx
  exact ⟨m, List.mem_append.2 (.inl (List.mem_flatMap.2 ⟨q, hq, hm⟩)), rfl⟩
 ·unfold zbi at hx
  obtain ⟨m, hm, rfl⟩ := List.mem_map.1 hx
  exact ⟨m, List.mem_append.2 (.inr hm), rfl⟩
theorem pairsB_len (l : List PE) : ∀ i, (zaD l i).length = (zcj l i).length := by
 intro i
 unfold zaD zcj
 induction (l.take i) with
 | nil => rfl
 | cons p r ih => simp [List.flatMap_cons, ih]
theorem dupN_no : ∀ (ns acc : List NtP), dupN acc ns = false → ∀ j (n : NtP), ns[j]? = some n → n ∉ acc ++ ns.take j
 | [], _, _, j, n, h => by simp at h
 | x :: r, acc, hd, 0, n, h => by
  unfold dupN at hd
  rw [Bool.or_eq_false_iff] at hd
  simp at h; subst h
  simpa using hd.1
 | x :: r, acc, hd, j + 1, n, h => by
  unfold dupN at hd
  rw [Bool.or_eq_false_iff] at hd
  have := dupN_no r (acc ++ [x]) hd.2 j n (by simpa using h)
  rwa [List.append_assoc, List.singleton_append] at this
structure CfGood (l : List PE) : Prop where
 n6 : l.length ≤ 6
 pe : ∀ p ∈ l, peE p = 0
 nd : ∀ i p, l[i]? = some p → dupN (zcj l i) p.nets = false
theorem zhb {c : CF} (h : cfE c = 0) : CfGood c.ps := by
 unfold cfE at h
 split at h
 ·rename_i h2; exact absurd h h2.2
 split at h
 ·cases h
 split at h
 ·cases h
 have key : ∀ i p, c.ps[i]? = some p → peE p = 0 ∧ dupN (zcj c.ps i) p.nets = false := by
  intro i p hp
  have hi := (List.getElem?_eq_some_iff.1 hp).1
  have h1 := zeA h i hi
  unfold zej at h1
  rw [zgO hp] at h1
  split at h1
  ·exact absurd h1 (by assumption)
  ·rename_i h2
   split at h1
   ·cases h1
   split at h1
   ·cases h1
   ·rename_i h3
    exact ⟨Decidable.not_not.1 h2, by simpa using h3⟩
 refine ⟨by omega, fun p hp => ?_, fun i p hp => (key i p hp).2⟩
 obtain ⟨i, hi, rfl⟩ := List.getElem_of_mem hp
 exact (key i _ (List.getElem?_eq_getElem hi)).1
theorem CfGood.net {l : List PE} (h : CfGood l) {p : PE} (hp : p ∈ l) : ∀ n ∈ p.nets, zai n.1 n.2 = 0 := by
 have h1 := h.pe p hp
 unfold peE at h1
 split at h1
 ·exact absurd h1 (by assumption)
 split at h1
 ·rename_i h2; exact absurd h1 h2.2
 split at h1
 ·cases h1
 split at h1
 ·rename_i h2; exact absurd h1 h2.2
 split at h1
 ·cases h1
 split at h1
 ·cases h1
 intro n hn
 obtain ⟨j, hj, rfl⟩ := List.getElem_of_mem hn
 have h2 := zeA h1 j hj
 unfold zcL at h2
 have hg : ntG p.nets j = p.nets[j] := by unfold ntG; rw [List.getD_eq_getElem?_getD, List.getElem?_eq_getElem hj]; rfl
 rw [hg] at h2
 split at h2
 ·exact absurd h2 (by assumption)
 ·rename_i h3; exact Decidable.not_not.1 h3
theorem CfGood.netB {l : List PE} (h : CfGood l) (ok : ∀ p ∈ l, p.OK) (i : Nat) : ∀ n ∈ zcj l i, ntOK n ∧ zai n.1 n.2 = 0 := by
 intro n hn
 obtain ⟨p, hp, hn⟩ := List.mem_flatMap.1 hn
 have hm := List.mem_of_mem_take hp
 exact ⟨(ok p hm).nets n hn, h.net hm n hn⟩
theorem CfGood.new {l : List PE} (h : CfGood l) (ok : ∀ p ∈ l, p.OK) {i j : Nat} {p : PE} {n : NtP} (hp : l[i]? = some p) (hn : p.nets[j]? = some n) : ∀ x ∈ zaD l i ++ zbi p j, x.1 ≠ nkey n := by
 intro x hx he
 obtain ⟨m, hm, hk⟩ := pairs_keys l i p j x hx
 have hpm := List.mem_of_getElem? hp
 have hnm := List.mem_of_getElem? hn
 have hmok : ntOK m ∧ zai m.1 m.2 = 0 := by
  rcases List.mem_append.1 hm with hm | hm
  ·exact h.netB ok i m hm
  ·have hm := List.mem_of_mem_take hm
   exact ⟨(ok p hpm).nets m hm, h.net hpm m hm⟩
 have : m = n := nkey_inj hmok.1 ((ok p hpm).nets n hnm) hmok.2 (h.net hpm n hnm) (hk.symm.trans he)
 subst this
 exact dupN_no _ _ (h.nd i p hp) j m hn hm
theorem zil {s : ByteArray} (h : keyE s = 0) : s.size ≤ 140737488351232 := by
 unfold keyE at h
 split at h
 ·omega
 ·cases h
theorem key_own {s : ByteArray} (h : keyE s = 0) : s ≠ noOwn := by
 intro e
 rw [e] at h
 exact absurd h (by decide +kernel)
def tOf (M : List (Key × Own)) : TR := M.foldl (fun t x => t.put x.1 x.2) .nil
theorem tOf_snoc (M : List (Key × Own)) (x : Key × Own) : tOf (M ++ [x]) = (tOf M).put x.1 x.2 := by
 unfold tOf
 rw [List.foldl_append]
 rfl
theorem zeT (p : PE) : zbi p 0 = [] := by simp [zbi]
theorem zeV (l : List PE) : zaD l 0 = [] := by simp [zaD]
theorem zfH (p : PE) {j : Nat} (h : j ≤ p.nets.length) : (zbi p j).length = j := by
 unfold zbi
 rw [List.length_map, List.length_take]
 omega
theorem tOf_in {l : List PE} (h : CfGood l) (ok : ∀ p ∈ l, p.OK) {i : Nat} {p : PE} (hp : l[i]? = some p) (hT : TM (tOf (zaD l i)) (zaD l i)) : ∀ j, j ≤ p.nets.length → TM (tOf (zaD l i ++ zbi p j)) (zaD l i ++ zbi p j)
 | 0, _ => by rw [zeT, List.append_nil]; exact hT
 | j + 1, hj => by
  have ih := tOf_in h ok hp hT j (by omega)
  have hm := List.mem_of_getElem? hp
  have hn : p.nets[j]? = some p.nets[j] := List.getElem?_eq_getElem (by omega)
  have hnm := List.mem_of_getElem? hn
  have hk := (zdo (h.pe p hm)).2
  have hno := (ok p hm).nets _ hnm
  rw [zeU hn, ← List.append_assoc, tOf_snoc]
  exact ih.put (zfI hno.1 hno.2 (h.net hm _ hnm)).1 (key_own hk) (zil hk) (h.new ok hp hn)
theorem zgx {l : List PE} (h : CfGood l) (ok : ∀ p ∈ l, p.OK) : ∀ i, i ≤ l.length → TM (tOf (zaD l i)) (zaD l i)
 | 0, _ => by rw [zeV]; exact TM.nil
 | i + 1, hi => by
  have hp : l[i]? = some l[i] := List.getElem?_eq_getElem (by omega)
  rw [zeW hp]
  exact tOf_in h ok hp (zgx h ok i (by omega)) _ (Nat.le_refl _)
theorem zd9 {l : List PE} (h : CfGood l) {i : Nat} (hi : i ≤ l.length) : (zaD l i).length ≤ 8 * i := by
 rw [pairsB_len]
 refine netsB_len (fun j hj => ?_) hi
 have hj' : l[j]? = some l[j] := List.getElem?_eq_getElem (by omega)
 rw [zgO hj']
 exact (zdo (h.pe _ (List.mem_of_getElem? hj'))).1
end Go.Proofs.YtbjdjclkbjpebaaGreatDoor
