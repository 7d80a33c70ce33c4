/- Used. -/
import Derived.Test.YtlfjpippeeikdaaGreatDoorSIn1
import Derived.Lib.Bytealg
set_option maxRecDepth 100000
set_option maxHeartbeats 16000000
set_option linter.all false
namespace Go.Proofs.YtlfjpippeeikdaaGreatDoor
open Tryz
open Go.RowKit
open Go.Sort
theorem fdiv2 (i j : Nat) : Int.fdiv ((i : Int) + (j : Int)) (2 ^ min (Int.toNat 1) IntKind.u64.bits) = (((i + j) / 2 : Nat) : Int) := by
 show Int.fdiv ((i : Int) + (j : Int)) 2 = _
 rw [qbP _ (by omega)]
 omega
def cmpB (a b : ByteArray) : Int := Lib.compareBytes a.data.toList b.data.toList
theorem cmpB_lt (a b : ByteArray) : cmpB a b < 0 ↔ sLt a b = true := by
 unfold cmpB sLt
 rw [ByteArray.toList_eq, ByteArray.toList_eq]
 generalize a.data.toList = x
 generalize b.data.toList = y
 induction x generalizing y with
 | nil => cases y <;> simp [Lib.compareBytes, Op.bytesLess]
 | cons u x ih =>
  cases y with
  | nil => simp [Lib.compareBytes, Op.bytesLess]
  | cons v y =>
   simp only [Lib.compareBytes, Op.bytesLess]
   by_cases h3 : u < v
   ·simp [h3]
   ·by_cases h4 : v < u
    ·have : u ≠ v := fun e => by subst e; exact h3 h4
     simp [h3, h4, this]
    ·have : u = v := UInt8.le_antisymm (UInt8.not_lt.1 h4) (UInt8.not_lt.1 h3)
     subst this
     simp [h3, ih]
section
variable {P : Program} {d : Option Tmp} {ty : TypeId} {pos : String} {af : Array Edge} {g : Option (Nat × Bool)}
theorem a_cmpstr {x y z : Operand} {ts : Array TypeId} {f : FuncId} {fn : Func} {s t : ByteArray} (hf : P.funcs[f]? = some fn) (hname : (fn.name == "runtime.NumGoroutine") = false) (hb : fn.body.isNone = true) (hn : Extern.findNext fn = none) (he : Extern.find fn = some Extern.BytealgCompare.compare) :
 AOp P ⟨d, .call { callee := .value x, args := #[y, z], argTypes := ts }, ty, pos, af, g⟩ [.fn f [], qc s, qc t] [] [] (qd (cmpB s t)) :=
 zaC fun S m w ev hr => by
  have hr' : RepL S m w [.fn f [], qc s, qc t] [ev x, ev y, ev z] := by simpa [Op.operands, Call.operands] using hr
  obtain ⟨ha, hb1, hb2⟩ := zhu hr'
  have hb1 := za8 hb1
  have hb2 := za8 hb2
  simp only [Rep, RepL] at ha
  obtain ⟨us, h3, rfl⟩ := ha
  refine ⟨.int .i64 (cmpB s t), ?_, za1 rfl⟩
  simp only [execOp, resolve, h3, Deferred.ofValue, invoke, qbp, qbq, qbi]
  have := run_callFunc_extern (P := P) hf hname hb hn he #[ev y, ev z] w
  rw [hb1, hb2, Lib.run_compareString] at this
  simpa [hb1, hb2, cmpB] using this
end
theorem cmpStr_s (s t : ByteArray) : Fn prog 190 [qc s, qc t] (qd (cmpB s t)) [] := by
 refine fnI fun w0 A => ?_
 refine G [8] ?_
 refine zaa (a_cmpstr func208 qr rfl rfl qr) rfl rfl ?_
 exact jbm
theorem compare_s (s t : ByteArray) : Fn prog 167 [qc s, qc t] (qd (cmpB s t)) [] := by
 have hC := cmpStr_s s t
 exact jcn
theorem pick1_s (p : PE) (k : ByteArray) : Fn prog 166 [.agg p.cells, qc k] (qd (cmpB p.key k)) [] := by
 obtain ⟨pk, sh, ep, al, nn⟩ := p
 have hC := compare_s pk k
 show Fn prog _ [.agg [qc pk, qc sh, qc ep, qd al, ql nn.length 2 (nn.flatMap ntC)], _] (qd (cmpB pk k)) _
 refine fnI fun w0 A => ?_
 refine jeT ?_
 exact jbm
theorem ncmp_s (m n : NtP) : Fn prog 102 [.agg ((ntC m).map AV.p), .agg ((ntC n).map AV.p)] (qd (zbI m.1 m.2 n.1 n.2)) [] := nCmp_s m.1 m.2 n.1 n.2
theorem bsN_s (l : List NtP) (n : NtP) (p : Nat) (hn : l.length ≤ 1048576) (hp : p ≤ l.length) (hlo : ∀ u, u < p → (hu : u < l.length) → (fun m : NtP => zbI m.1 m.2 n.1 n.2) l[u] < 0) (hhi : ∀ u, p ≤ u → (hu : u < l.length) → ¬ (fun m : NtP => zbI m.1 m.2 n.1 n.2) l[u] < 0) :
 ∃ b, Fn prog 171 [ql l.length 2 (l.flatMap ntC), .agg ((ntC n).map AV.p), .fn 102 []] (.tup [qd p, qf b]) [] := by
 have hq := fun m => ncmp_s m n
 obtain ⟨c, hc⟩ : ∃ c, c = fun m : NtP => zbI m.1 m.2 n.1 n.2 := ⟨_, rfl⟩
 rw [← hc] at hlo hhi
 replace hq : ∀ x : NtP, Fn prog 102 [.agg ((fun m : NtP => (ntC m).map AV.p) x), .agg ((ntC n).map AV.p)] (qd (c x)) [] := fun x => by rw [hc]; exact hq x
 clear hc
 obtain ⟨b, hb⟩ : ∃ b, b = if hk : p < l.length then decide (c (l[p]'hk) = 0) else false := ⟨_, rfl⟩
 refine ⟨b, ?_⟩
 refine fnI fun w0 A => ?_
 refine G [20] ?_
 refine zac (fun m st => ∃ i j : Nat, m + i = j ∧ i ≤ p ∧ p ≤ j ∧ j ≤ l.length ∧ st = St.of [(0, ql l.length 2 (l.flatMap ntC)), (4, .ref 4 0), (2, .fn 102 []), (8, qd l.length), (9, qd i), (10, qd j)] [(4, .box 82 ((ntC n).map AV.p))]) l.length ?_ ?_
 ·refine ⟨_, zae id _ _ ?_ ?_ rfl, 0, l.length, qp, qp, qp, qp, rfl⟩
  ·exact jap
  ·exact ja3
 rintro m st ⟨i, j, hm, hip, hpj, hjn, rfl⟩
 by_cases hij : i < j
 ·refine G [5, 4, 2] ?_
  obtain ⟨h, hh⟩ : ∃ h, (i + j) / 2 = h := ⟨_, rfl⟩
  have hlt : h < l.length := qp
  have hx : l[h]? = some (l[h]'hlt) := List.getElem?_eq_getElem hlt
  have hch := zaj (f := ntC) (k := 2) (fun _ => rfl) hx
  have hle := zai (f := ntC) (k := 2) (fun _ => rfl) hlt
  have hC := hq (l[h]'hlt)
  have hlo' : ¬ c (l[h]'hlt) < 0 → p ≤ h := fun h1 => by
   rcases qcl h p with h2 | h2
   ·exact absurd (hlo h h2 hlt) h1
   ·exact h2
  have hhi' : c (l[h]'hlt) < 0 → h + 1 ≤ p := fun h1 => by
   rcases qcl h p with h2 | h2
   ·exact h2
   ·exact absurd h1 (hhi h h2 hlt)
  clear hlo hhi hb
  generalize hxx : (l[h]'hlt) = x at *
  generalize l.flatMap ntC = L at *
  refine G [8] ?_
  refine zaa (a_shr qp ((fdiv2 i j).trans (by rw [hh]))) rfl rfl ?_
  refine G [3] ?_
  by_cases hcx : c x < 0
  ·have h1 := hhi' hcx
   refine G [8] ?_
   refine cK hC ?_
   refine G [0, 4, 2] ?_
   skip
   refine jdD ?_
   refine ⟨j - (h + 1), qp, _, zae id [(0, ql l.length 2 L), (4, .ref 4 0), (2, .fn 102 []), (8, qd l.length), (9, qd (h + 1 : Nat)), (10, qd j)] [(4, .box 82 ((ntC n).map AV.p))] ?_ ?_ rfl, h + 1, j, qp, qp, qp, qp, rfl⟩
   ·exact jap
   ·exact ja3
  ·have h1 := hlo' hcx
   refine G [8] ?_
   refine cK hC ?_
   refine G [0, 3, 2] ?_
   skip
   refine G [4, 9, 0] ?_
   refine ⟨h - i, qp, _, zae id [(0, ql l.length 2 L), (4, .ref 4 0), (2, .fn 102 []), (8, qd l.length), (9, qd i), (10, qd h)] [(4, .box 82 ((ntC n).map AV.p))] ?_ ?_ rfl, i, h, qp, qp, qp, qp, rfl⟩
   ·exact jap
   ·exact ja3
 obtain rfl : i = j := qp
 obtain rfl : i = p := qp
 clear hlo hhi
 refine G [5, 3, 2] ?_
 by_cases hlt : i < l.length
 ·rw [dif_pos hlt] at hb
  have hx : l[i]? = some (l[i]'hlt) := List.getElem?_eq_getElem hlt
  have hch := zaj (f := ntC) (k := 2) (fun _ => rfl) hx
  have hle := zai (f := ntC) (k := 2) (fun _ => rfl) hlt
  have hC := hq (l[i]'hlt)
  generalize hxx : (l[i]'hlt) = x at *
  generalize l.flatMap ntC = L at *
  exact jcU
 ·rw [dif_neg hlt] at hb
  subst hb
  generalize l.flatMap ntC = L at *
  refine G [6, 3, 14, 9, 0] ?_
  exact yE
theorem bsP_s (l : List PE) (k : ByteArray) (p : Nat) (hn : l.length ≤ 1048576) (hp : p ≤ l.length) (hlo : ∀ u, u < p → (hu : u < l.length) → (fun p : PE => cmpB p.key k) l[u] < 0) (hhi : ∀ u, p ≤ u → (hu : u < l.length) → ¬ (fun p : PE => cmpB p.key k) l[u] < 0) :
 ∃ b, Fn prog 165 [ql l.length 5 (l.flatMap PE.pv), qc k, .fn 166 []] (.tup [qd p, qf b]) [] := by
 have hq := fun p => pick1_s p k
 obtain ⟨c, hc⟩ : ∃ c, c = fun p : PE => cmpB p.key k := ⟨_, rfl⟩
 rw [← hc] at hlo hhi
 replace hq : ∀ x : PE, Fn prog 166 [.agg (PE.cells x), qc k] (qd (c x)) [] := fun x => by rw [hc]; exact hq x
 clear hc
 obtain ⟨b, hb⟩ : ∃ b, b = if hk : p < l.length then decide (c (l[p]'hk) = 0) else false := ⟨_, rfl⟩
 refine ⟨b, ?_⟩
 refine fnI fun w0 A => ?_
 refine G [19] ?_
 refine zac (fun m st => ∃ i j : Nat, m + i = j ∧ i ≤ p ∧ p ≤ j ∧ j ≤ l.length ∧ st = St.of [(0, ql l.length 5 (l.flatMap PE.pv)), (1, qc k), (2, .fn 166 []), (8, qd l.length), (9, qd i), (10, qd j)] []) l.length ?_ ?_
 ·refine ⟨_, zae id _ _ ?_ ?_ rfl, 0, l.length, qp, qp, qp, qp, rfl⟩
  ·exact jap
  ·exact trivial
 rintro m st ⟨i, j, hm, hip, hpj, hjn, rfl⟩
 by_cases hij : i < j
 ·refine G [5, 4, 2] ?_
  obtain ⟨h, hh⟩ : ∃ h, (i + j) / 2 = h := ⟨_, rfl⟩
  have hlt : h < l.length := qp
  have hx : l[h]? = some (l[h]'hlt) := List.getElem?_eq_getElem hlt
  have hch := zaj (f := PE.pv) (k := 5) (fun _ => rfl) hx
  have hle := zai (f := PE.pv) (k := 5) (fun _ => rfl) hlt
  have hC := hq (l[h]'hlt)
  have hlo' : ¬ c (l[h]'hlt) < 0 → p ≤ h := fun h1 => by
   rcases qcl h p with h2 | h2
   ·exact absurd (hlo h h2 hlt) h1
   ·exact h2
  have hhi' : c (l[h]'hlt) < 0 → h + 1 ≤ p := fun h1 => by
   rcases qcl h p with h2 | h2
   ·exact h2
   ·exact absurd h1 (hhi h h2 hlt)
  clear hlo hhi hb
  generalize hxx : (l[h]'hlt) = x at *
  generalize l.flatMap PE.pv = L at *
  refine G [8] ?_
  refine zaa (a_shr qp ((fdiv2 i j).trans (by rw [hh]))) rfl rfl ?_
  refine G [3] ?_
  by_cases hcx : c x < 0
  ·have h1 := hhi' hcx
   refine G [8] ?_
   refine cK hC ?_
   refine G [0, 4, 2] ?_
   skip
   refine jdD ?_
   refine ⟨j - (h + 1), qp, _, zae id [(0, ql l.length 5 L), (1, qc k), (2, .fn 166 []), (8, qd l.length), (9, qd (h + 1 : Nat)), (10, qd j)] [] ?_ ?_ rfl, h + 1, j, qp, qp, qp, qp, rfl⟩
   ·exact jap
   ·exact trivial
  ·have h1 := hlo' hcx
   refine G [8] ?_
   refine cK hC ?_
   refine G [0, 3, 2] ?_
   skip
   refine G [4, 9, 0] ?_
   refine ⟨h - i, qp, _, zae id [(0, ql l.length 5 L), (1, qc k), (2, .fn 166 []), (8, qd l.length), (9, qd i), (10, qd h)] [] ?_ ?_ rfl, i, h, qp, qp, qp, qp, rfl⟩
   ·exact jap
   ·exact trivial
 obtain rfl : i = j := qp
 obtain rfl : i = p := qp
 clear hlo hhi
 refine G [5, 3, 2] ?_
 by_cases hlt : i < l.length
 ·rw [dif_pos hlt] at hb
  have hx : l[i]? = some (l[i]'hlt) := List.getElem?_eq_getElem hlt
  have hch := zaj (f := PE.pv) (k := 5) (fun _ => rfl) hx
  have hle := zai (f := PE.pv) (k := 5) (fun _ => rfl) hlt
  have hC := hq (l[i]'hlt)
  generalize hxx : (l[i]'hlt) = x at *
  generalize l.flatMap PE.pv = L at *
  exact jcU
 ·rw [dif_neg hlt] at hb
  subst hb
  generalize l.flatMap PE.pv = L at *
  refine G [6, 3, 14, 9, 0] ?_
  exact yE
def pkV (k : PK) : List Value := [.string k.1, k.2.1, k.2.2.1, k.2.2.2.1, k.2.2.2.2]
theorem vs_pk (ks : List PK) : vs (ks.flatMap pkV) = ks.flatMap pkC := by
 unfold vs
 rw [List.map_flatMap]
 rfl
inductive PKR (S : Nat → Prop) (w : World) : List PE → List PK → Prop
 | nil : PKR S w [] []
 | cons (p : PE) (k : PK) (l : List PE) (ks : List PK) : p.key = k.1 → PRepL S w p.pv (pkV k) → PKR S w l ks → PKR S w (p :: l) (k :: ks)
theorem pkr_of {S : Nat → Prop} {w : World} : ∀ {l : List PE} {us : List Value}, PRepL S w (l.flatMap PE.pv) us → ∃ ks, PKR S w l ks ∧ us = ks.flatMap pkV
 | [], us, h => ⟨[], .nil, by simpa [PRepL] using h⟩
 | p :: l, us, h => by
  simp only [qbR, PE.pv, qbG, qbK, PRepL] at h
  obtain ⟨u0, _, rfl, h0, u1, _, rfl, h1, u2, _, rfl, h2, u3, _, rfl, h3, u4, us, rfl, h4, h5⟩ := h
  obtain ⟨ks, k1, rfl⟩ := pkr_of h5
  have h0' := h0
  simp only [PRep] at h0'
  obtain ⟨rfl, _⟩ := h0'
  refine ⟨(p.key, u1, u2, u3, u4) :: ks, .cons p _ l ks rfl ?_ k1, rfl⟩
  simp only [PE.pv, pkV, PRepL]
  exact ⟨_, _, rfl, h0, _, _, rfl, h1, _, _, rfl, h2, _, _, rfl, h3, _, _, rfl, h4, rfl⟩
theorem PKR.rep {S : Nat → Prop} {w : World} {l : List PE} {ks : List PK} (h : PKR S w l ks) : PRepL S w (l.flatMap PE.pv) (ks.flatMap pkV) := by
 induction h with
 | nil => simp [PRepL]
 | cons p k l ks h1 h2 _ ih =>
  rw [qbR, qbR]
  exact h2.append ih
theorem PKR.len {S : Nat → Prop} {w : World} {l : List PE} {ks : List PK} (h : PKR S w l ks) : ks.length = l.length := by
 induction h with
 | nil => rfl
 | cons p k l ks h1 h2 _ ih => simp [ih]
theorem PKR.take {S : Nat → Prop} {w : World} {l : List PE} {ks : List PK} (h : PKR S w l ks) : ∀ i, PKR S w (l.take i) (ks.take i) := by
 induction h with
 | nil => intro i; simpa using PKR.nil
 | cons p k l ks h1 h2 _ ih =>
  intro i
  cases i with
  | zero => exact .nil
  | succ i => exact .cons _ _ _ _ h1 h2 (ih i)
theorem PKR.drop {S : Nat → Prop} {w : World} {l : List PE} {ks : List PK} (h : PKR S w l ks) : ∀ i, PKR S w (l.drop i) (ks.drop i) := by
 induction h with
 | nil => intro i; simpa using PKR.nil
 | cons p k l ks h1 h2 h3 ih =>
  intro i
  cases i with
  | zero => exact .cons _ _ _ _ h1 h2 h3
  | succ i => exact ih i
theorem PKR.append {S : Nat → Prop} {w : World} {l l' : List PE} {ks ks' : List PK} (h : PKR S w l ks) (h' : PKR S w l' ks') : PKR S w (l ++ l') (ks ++ ks') := by
 induction h with
 | nil => exact h'
 | cons p k l ks h1 h2 _ ih => exact .cons _ _ _ _ h1 h2 ih
theorem PKR.filter {S : Nat → Prop} {w : World} {l : List PE} {ks : List PK} (q : ByteArray → Bool) (h : PKR S w l ks) : PKR S w (l.filter fun p => q p.key) (ks.filter fun k => q k.1) := by
 induction h with
 | nil => exact .nil
 | cons p k l ks h1 h2 _ ih =>
  simp only [List.filter_cons, h1]
  split
  ·exact .cons _ _ _ _ h1 h2 ih
  ·exact ih
def newP (k : ByteArray) : PE := ⟨k, ⟨#[]⟩, ⟨#[]⟩, 0, []⟩
def newK (k : ByteArray) : PK := (k, .string ⟨#[]⟩, .string ⟨#[]⟩, .int .i64 0, .slice none 0 0)
theorem new_rep (S : Nat → Prop) (w : World) (k : ByteArray) : PRepL S w (newP k).pv (pkV (newK k)) := by
 simp [newP, newK, PE.pv, pkV, PRepL, PRep, Value.oneCell']
 exact ⟨_, _, ⟨rfl, rfl⟩, rfl, _, _, rfl, rfl, _, _, rfl, rfl, _, _, rfl, rfl, _, rfl, _, _, rfl⟩
def delK (k : ByteArray) (l : List PE) : List PE := l.filter fun p => !decide (p.key = k)
theorem rmP_c (l : List PE) (k : ByteArray) (hn : l.length ≤ 1048576) (S : Nat → Prop) (w : World) (us : List Value) (h : PRepL S w (l.flatMap PE.pv) us) :
 ∃ us', PRepL S w ((delK k l).flatMap PE.pv) us' ∧ FnR prog 131 (.row 0 :: [.fn 132 [.ptr [qg k]]]) [(0, .row 48 5 l.length (vs us))] (.row 1) [(1, .row 48 5 (delK k l).length (vs us'))] := by
 obtain ⟨ks, h1, rfl⟩ := pkr_of h
 have h2 := h1.filter fun x => !decide (x = k)
 refine ⟨_, h2.rep, ?_⟩
 have h3 := delP_s ks k (by rw [h1.len]; exact hn)
 rw [vs_pk, vs_pk]
 rw [h1.len] at h3
 have h4 := h2.len
 rw [h4] at h3
 exact h3
theorem inP_c (l : List PE) (k : ByteArray) (i : Nat) (hi : i ≤ l.length) (hn : l.length ≤ 1048576) (S : Nat → Prop) (w : World) (us : List Value) (h : PRepL S w (l.flatMap PE.pv) us) :
 ∃ us', PRepL S w ((l.take i ++ newP k :: l.drop i).flatMap PE.pv) us' ∧ FnR prog 168 [.row 0, qd i, .psl 1 0 1 5] [(0, .row 48 5 l.length (vs us)), (1, .box 48 ((pkC (newK k)).map AV.p))] (.row 2) [(2, .row 48 5 (l.length + 1) (vs us'))] := by
 obtain ⟨ks, h1, rfl⟩ := pkr_of h
 have h2 := (h1.take i).append (PKR.cons (newP k) (newK k) _ _ rfl (new_rep S w k) (h1.drop i))
 refine ⟨_, h2.rep, ?_⟩
 have h3 := insP_s ks (newK k) i (by rw [h1.len]; exact hi) (by rw [h1.len]; exact hn)
 rw [vs_pk, vs_pk]
 rw [h1.len] at h3
 exact h3
theorem vs_of {S : Nat → Prop} {w : World} : ∀ {ps : List PV} {us : List Value}, ps.all PV.isV = true → PRepL S w ps us → vs us = ps
 | [], us, _, h => by simp only [PRepL] at h; subst h; rfl
 | p :: ps, us, hv, h => by
  simp only [PRepL] at h
  obtain ⟨u, us, rfl, h1, h2⟩ := h
  simp only [List.all_cons, qbv] at hv
  cases p with
  | v x =>
   simp only [PRep] at h1
   rw [h1.1]
   have := vs_of hv.2 h2
   simp only [vs, qbj] at this ⊢
   rw [this]
  | sl n s cs => simp [PV.isV] at hv
  | pt cs => simp [PV.isV] at hv
def ntV (n : NtP) : List Value := [.int .u32 n.1, .int .i64 n.2]
theorem vs_nt (l : List NtP) : vs (l.flatMap ntV) = l.flatMap ntC := by
 unfold vs
 rw [List.map_flatMap]
 rfl
theorem nt_isV (l : List NtP) : (l.flatMap ntC).all PV.isV = true := by
 induction l with
 | nil => rfl
 | cons n l ih => rw [qbR, List.all_append, ih]; rfl
theorem nt_rep (S : Nat → Prop) (w : World) (l : List NtP) : PRepL S w (l.flatMap ntC) (l.flatMap ntV) := by
 rw [← vs_nt]
 refine vs_rep fun x hx => ?_
 obtain ⟨n, _, hn⟩ := List.mem_flatMap.1 hx
 simp only [ntV, qbm, qb4, or_false] at hn
 rcases hn with rfl | rfl <;> rfl
def delN (n : NtP) (l : List NtP) : List NtP := l.filter fun m => !decide (m = n)
theorem rmN_c (l : List NtP) (n : NtP) (hn : l.length ≤ 1048576) (S : Nat → Prop) (w : World) (us : List Value) (h : PRepL S w (l.flatMap ntC) us) :
 ∃ us', PRepL S w ((delN n l).flatMap ntC) us' ∧ FnR prog 169 (.row 0 :: [.fn 170 [.ptr (ntC n)]]) [(0, .row 82 2 l.length (vs us))] (.row 1) [(1, .row 82 2 (delN n l).length (vs us'))] := by
 refine ⟨_, nt_rep S w _, ?_⟩
 rw [vs_nt, vs_of (nt_isV l) h]
 exact delN_s l n hn
theorem inN_c (l : List NtP) (x : NtP) (i : Nat) (hi : i ≤ l.length) (hn : l.length ≤ 1048576) (S : Nat → Prop) (w : World) (us : List Value) (h : PRepL S w (l.flatMap ntC) us) :
 ∃ us', PRepL S w ((l.take i ++ x :: l.drop i).flatMap ntC) us' ∧ FnR prog 172 [.row 0, qd i, .psl 1 0 1 2] [(0, .row 82 2 l.length (vs us)), (1, .box 82 ((ntC x).map AV.p))] (.row 2) [(2, .row 82 2 (l.length + 1) (vs us'))] := by
 refine ⟨_, nt_rep S w _, ?_⟩
 rw [vs_nt, vs_of (nt_isV l) h]
 exact insN_s l x i hi hn
theorem peerNo_s (key : ByteArray) (port : Int) (l : List PE) (ok : CF.OK ⟨key, port, l⟩) (pt : ByteArray) (h : pt = ⟨#[]⟩ ∨ ¬ peN pt l < l.length) : FnO prog 130 [.ref 0 0, qc pt] [(0, qj 24 [qc key, qd port, .row 1]), (1, qk 48 5 l.length (l.flatMap PE.pv))] [(0, qj 24 [qc key, qd port, .row 1]), (1, qk 48 5 l.length (l.flatMap PE.pv))] (.tup [.p (.v (.pointer none)), qd 13]) := by
 have hF := zgO ⟨key, port, l⟩ ok pt
 change Fn prog _ [.agg (cfC key port l.length (l.flatMap PE.pv)), _] (if peN pt l < l.length then _ else _) _ at hF
 have hn := ok.len
 dsimp only at hn
 by_cases h1 : peN pt l < l.length
 ·have h0 : pt = ⟨#[]⟩ := h.resolve_right (fun h2 => h2 h1)
  rw [if_pos h1] at hF
  generalize l.flatMap PE.pv = L at *
  refine fnIO fun w0 A heap => ?_
  refine G [11] ?_
  refine cV hF ?_
  refine G [10, 4, 12, 9, 0] ?_
  exact jas
 ·rw [if_neg h1] at hF
  generalize l.flatMap PE.pv = L at *
  refine fnIO fun w0 A heap => ?_
  refine G [11] ?_
  refine cV hF ?_
  refine G [6] ?_
  by_cases h0 : pt = ⟨#[]⟩
  ·refine G [4, 4, 12, 9, 0] ?_
   exact jas
  ·refine G [4, 3, 12, 9, 0] ?_
   exact jas
theorem zfE (key : ByteArray) (port : Int) (l : List PE) (ok : CF.OK ⟨key, port, l⟩) (pt : ByteArray) (h0 : pt ≠ ⟨#[]⟩) (h1 : peN pt l < l.length) : FnO prog 130 [.ref 0 0, qc pt] [(0, qj 24 [qc key, qd port, .row 1]), (1, qk 48 5 l.length (l.flatMap PE.pv))] [(0, qj 24 [qc key, qd port, .row 1]), (1, qk 48 5 l.length (l.flatMap PE.pv))] (.tup [.ref 1 (peN pt l * 5), qd 0]) := by
 have hF := zgO ⟨key, port, l⟩ ok pt
 change Fn prog _ [.agg (cfC key port l.length (l.flatMap PE.pv)), _] (if peN pt l < l.length then _ else _) _ at hF
 have hn := ok.len
 dsimp only at hn
 rw [if_pos h1] at hF
 generalize l.flatMap PE.pv = L at *
 generalize peN pt l = N at *
 refine fnIO fun w0 A heap => ?_
 refine G [11] ?_
 refine cV hF ?_
 refine G [10, 3, 2, 1, 16] ?_
 exact jas
theorem pickOwn_s (key : ByteArray) (port : Int) (l : List PE) (ok : CF.OK ⟨key, port, l⟩) : FnO prog 129 [.ref 0 0, qc key] [(0, qj 24 [qc key, qd port, .row 1]), (1, qk 48 5 l.length (l.flatMap PE.pv))] [(0, qj 24 [qc key, qd port, .row 1]), (1, qk 48 5 l.length (l.flatMap PE.pv))] (qd 14) := by
 clear ok
 generalize l.flatMap PE.pv = L at *
 refine fnIO fun w0 A heap => ?_
 refine G [12, 4, 7, 9, 0] ?_
 exact jaS
theorem pickOld_s (key : ByteArray) (port : Int) (l : List PE) (ok : CF.OK ⟨key, port, l⟩) (k : ByteArray) (h0 : k ≠ key) (h1 : peN k l < l.length) : FnO prog 129 [.ref 0 0, qc k] [(0, qj 24 [qc key, qd port, .row 1]), (1, qk 48 5 l.length (l.flatMap PE.pv))] [(0, qj 24 [qc key, qd port, .row 1]), (1, qk 48 5 l.length (l.flatMap PE.pv))] (qd 0) := by
 have hF := zgO ⟨key, port, l⟩ ok k
 change Fn prog _ [.agg (cfC key port l.length (l.flatMap PE.pv)), _] (if peN k l < l.length then _ else _) _ at hF
 rw [if_pos h1] at hF
 generalize l.flatMap PE.pv = L at *
 refine fnIO fun w0 A heap => ?_
 refine G [12, 3, 10] ?_
 refine cV hF ?_
 refine G [9, 1, 7, 9, 0] ?_
 exact jaS
theorem pickFull_s (key : ByteArray) (port : Int) (l : List PE) (ok : CF.OK ⟨key, port, l⟩) (k : ByteArray) (h0 : k ≠ key) (h1 : ¬ peN k l < l.length) (h2 : l.length = 6) : FnO prog 129 [.ref 0 0, qc k] [(0, qj 24 [qc key, qd port, .row 1]), (1, qk 48 5 l.length (l.flatMap PE.pv))] [(0, qj 24 [qc key, qd port, .row 1]), (1, qk 48 5 l.length (l.flatMap PE.pv))] (qd 7) := by
 have hF := zgO ⟨key, port, l⟩ ok k
 change Fn prog _ [.agg (cfC key port l.length (l.flatMap PE.pv)), _] (if peN k l < l.length then _ else _) _ at hF
 rw [if_neg h1] at hF
 generalize l.flatMap PE.pv = L at *
 refine fnIO fun w0 A heap => ?_
 refine G [12, 3, 10] ?_
 refine cV hF ?_
 refine G [21, 4, 7, 9, 0] ?_
 exact jaS
theorem pickNew_s (key : ByteArray) (port : Int) (l : List PE) (ok : CF.OK ⟨key, port, l⟩) (k : ByteArray) (h0 : k ≠ key) (h1 : ¬ peN k l < l.length) (h2 : l.length ≠ 6) (p : Nat) (hp : p ≤ l.length) (hlo : ∀ u, u < p → (hu : u < l.length) → sLt l[u].key k = true) (hhi : ∀ u, p ≤ u → (hu : u < l.length) → ¬ sLt l[u].key k = true) :
 FnO prog 129 [.ref 0 0, qc k] [(0, qj 24 [qc key, qd port, .row 1]), (1, qk 48 5 l.length (l.flatMap PE.pv)), (48, .un), (49, .un)] [(0, qj 24 [qc key, qd port, .row 49]), (1, .dead), (48, .dead), (49, qk 48 5 (l.length + 1) ((l.take p ++ newP k :: l.drop p).flatMap PE.pv))] (qd 0) := by
 have hF := zgO ⟨key, port, l⟩ ok k
 change Fn prog _ [.agg (cfC key port l.length (l.flatMap PE.pv)), _] (if peN k l < l.length then _ else _) _ at hF
 rw [if_neg h1] at hF
 have hn := ok.len
 dsimp only at hn
 obtain ⟨fb, hB⟩ := bsP_s l k p hn hp (fun u h3 hu => (cmpB_lt _ _).2 (hlo u h3 hu)) (fun u h3 hu h4 => hhi u h3 hu ((cmpB_lt _ _).1 h4))
 have hI := inP_c l k p hp hn
 clear hlo hhi
 generalize (l.take p ++ newP k :: l.drop p).flatMap PE.pv = L' at *
 generalize l.flatMap PE.pv = L at *
 refine fnIO fun w0 A heap => ?_
 refine G [12, 3, 10] ?_
 refine cV hF ?_
 refine G [21, 3, 10] ?_
 refine cV hB ?_
 refine G [16] ?_
 refine jfc (zed 48 U22 sz48 zc48 (qbe rfl) (qbe rfl) rfl rfl (qbe rfl)) ?_
 refine zab (a_callR2 (o' := 49) (n := l.length) (n' := l.length + 1) (qs := L') func168 rfl rfl rfl rfl qE hI) rfl rfl ⟨rfl, rfl, rfl, trivial⟩ ?_
 refine G [9] ?_
 exact jaS
theorem zii {st : St} (t o : Nat) {ty : TypeId} {xs : List AV} {cs : List PV} (ht : st.tmps t = .ref o 0) (h : st.heap o = qj ty xs) (ha : allP xs = some cs) :
 ReO st ⟨fun k => bif Nat.beq k t then .ptr cs else st.tmps k, updL st.heap [(o, .dead)]⟩ := by
 rintro w0 A nt a w ⟨⟨S, m, hm, hj, hr⟩, hsz, hd⟩
 obtain ⟨v, h1, h2, h3⟩ := hm.live o _ h
 obtain ⟨b, us, rfl, g1, g2, g3, g4⟩ := h2
 rw [zhb ha] at g2
 have g : Grow S m w (fun x => S x ∨ x = b) m w := ⟨fun _ h => .inl h, fun _ _ => rfl, fun _ _ h => h⟩
 have hlt : b < w.heap.size := (qbC.1 g4).1
 have hm1 := zi0 hm o
 refine ⟨⟨fun x => S x ∨ x = b, m, ⟨hm.bel, ?_, ?_, hm1.un, fun o' ob ho => ?_, hm1.inj, hm.gl⟩, A.up _ _ _ _ _ _ g hj, fun k => ?_⟩, hsz, hd⟩
 ·rintro x (hx | rfl)
  ·exact hm.sA x hx
  ·exact .inr g1
 ·rintro x (hx | rfl)
  ·exact hm.sW x hx
  ·exact hlt
 ·obtain ⟨u, j1, j2, j3⟩ := hm1.live o' ob ho
  have hoo : o' ≠ o ∧ st.heap o' = .live ob := by
   exact jc8
  refine ⟨u, j1, j2.mono g fun _ _ => rfl, ?_⟩
  rintro x hx (hS | rfl)
  ·exact j3 x hx hS
  ·exact hoo.1 (hm.inj _ _ _ _ _ _ _ hoo.2 h j1 h1 hx rfl)
 ·by_cases e : k = t
  ·subst e
   have := hr k
   rw [ht] at this
   simp only [Rep] at this
   obtain ⟨b', v0, i1, i2, i3⟩ := this
   rw [h1] at i1; cases i1
   obtain rfl : b = b' := by simpa [blk] using i2
   simp only [qca, cond_true, Rep]
   exact ⟨b, 0, us, i3, .inr rfl, PRepL.mono g.s g.w _ _ (zbO g2), zcw g4⟩
  ·simp only [nbeq e, cond_false]
   exact Rep.mono g _ _ (hr k)
theorem zhZ {P : Program} {o : Oper} {xs ys : List AV} {rds wrs : List (Nat × Slot)} {r : AV} (hv : ∀ (S : Nat → Prop) (m : Nat → Option Value) (w : World) (us : List Value), RepL S m w xs us → RepL S m w ys us) (h : AOp P o ys rds wrs r) : AOp P o xs rds wrs r :=
 fun w0 A S m heap w ev hm hR hrd => h w0 A S m heap w ev hm (hv S m w _ hR) hrd
theorem nil_sl (x : AV) (z : Nat) (S : Nat → Prop) (m : Nat → Option Value) (w : World) (us : List Value) (h : RepL S m w [x, qm] us) : RepL S m w [x, ql 0 z []] us := by
 simp only [RepL, Rep, PRep, PRepL] at h ⊢
 obtain ⟨u, _, rfl, h1, u2, _, rfl, ⟨rfl, _⟩, rfl⟩ := h
 exact ⟨u, _, rfl, h1, _, _, rfl, ⟨none, 0, [], rfl, Nat.le_refl _, qC, rfl, qC⟩, rfl⟩
theorem zgH {l : List PE} {j : Nat} (hj : j < l.length) (q : Nat) (x : PV) (p' : PE) (h : p'.pv = setR l[j].pv q [x]) (hq : q + 1 ≤ 5) : setR (l.flatMap PE.pv) (j * 5 + q) [x] = (l.set j p').flatMap PE.pv := by
 have h1 : l = l.take j ++ l[j] :: l.drop (j + 1) := qas
 have h2 : l.set j p' = l.take j ++ p' :: l.drop (j + 1) := qaT
 have h3 : ((l.take j).flatMap PE.pv).length = j * 5 := qS
 have h4 : (l[j].pv).length = 5 := rfl
 rw [h2]
 conv => lhs; rw [h1]
 rw [qbD, qbD, qbR, qbR, h, ← h3]
 generalize (l.take j).flatMap PE.pv = A
 generalize (l.drop (j + 1)).flatMap PE.pv = D
 generalize l[j].pv = X at *
 unfold setR
 rw [List.take_append, qbr (by omega : A.length ≤ A.length + q), Nat.add_sub_cancel_left, qbH (by omega)]
 rw [List.drop_append, qbS (by omega : A.length ≤ A.length + q + [x].length), qbK, show A.length + q + [x].length - A.length = q + [x].length by omega, List.drop_append_of_le_length (by simp; omega)]
 simp [qbB]
theorem zhN (k : Int) (t : ByteArray) (n a b : Int) (h1 : k ≠ 1) (h2 : k ≠ 2) (h3 : k ≠ 3) : FnO prog 128 [.ref 0 0, .agg [qd k, qc t, qd n, qe a, qd b]] [(3, .un)] [(3, qj 107 [qd k, qc t, qd n, qe a, qd b])] (.tup [qf false, qd 0]) := by
 refine fnIO fun w0 A heap => ?_
 refine G [15, 3, 5, 3, 5, 3, 9, 9, 0] ?_
 exact jas
theorem gl1a_s (key : ByteArray) (port : Int) (l : List PE) (ok : CF.OK ⟨key, port, l⟩) (t : ByteArray) (n a b : Int) (h : peN t l < l.length) : FnO prog 128 [.ref 0 0, .agg [qd 1, qc t, qd n, qe a, qd b]] [(0, qj 24 [qc key, qd port, .row 1]), (1, qk 48 5 l.length (l.flatMap PE.pv)), (3, .un)] [(0, qj 24 [qc key, qd port, .row 1]), (1, qk 48 5 l.length (l.flatMap PE.pv)), (3, qj 107 [qd 1, qc t, qd n, qe a, qd b])] (.tup [qf true, qd 14]) := by
 have hF := zgO ⟨key, port, l⟩ ok t
 change Fn prog _ [.agg (cfC key port l.length (l.flatMap PE.pv)), _] (if peN t l < l.length then _ else _) _ at hF
 rw [if_pos h] at hF
 generalize l.flatMap PE.pv = L at *
 refine fnIO fun w0 A heap => ?_
 refine G [15, 1, 11] ?_
 refine cV hF ?_
 refine G [9, 1, 8, 9, 0] ?_
 exact jas
theorem gl1b_s (key : ByteArray) (port : Int) (l : List PE) (ok : CF.OK ⟨key, port, l⟩) (t : ByteArray) (n a b : Int) (h : ¬ peN t l < l.length) : FnO prog 128 [.ref 0 0, .agg [qd 1, qc t, qd n, qe a, qd b]] [(0, qj 24 [qc key, qd port, .row 1]), (1, qk 48 5 l.length (l.flatMap PE.pv)), (3, .un)] [(0, qj 24 [qc t, qd port, .row 1]), (1, qk 48 5 l.length (l.flatMap PE.pv)), (3, qj 107 [qd 1, qc t, qd n, qe a, qd b])] (.tup [qf true, qd 0]) := by
 have hF := zgO ⟨key, port, l⟩ ok t
 change Fn prog _ [.agg (cfC key port l.length (l.flatMap PE.pv)), _] (if peN t l < l.length then _ else _) _ at hF
 rw [if_neg h] at hF
 generalize l.flatMap PE.pv = L at *
 refine fnIO fun w0 A heap => ?_
 refine G [15, 1, 11] ?_
 refine cV hF ?_
 refine G [27] ?_
 exact jas
theorem gl2_s (key : ByteArray) (port : Int) (l : List PE) (ok : CF.OK ⟨key, port, l⟩) (t : ByteArray) (n a b : Int) : FnO prog 128 [.ref 0 0, .agg [qd 2, qc t, qd n, qe a, qd b]] [(0, qj 24 [qc key, qd port, .row 1]), (1, qk 48 5 l.length (l.flatMap PE.pv)), (3, .un)] [(0, qj 24 [qc key, qd n, .row 1]), (1, qk 48 5 l.length (l.flatMap PE.pv)), (3, qj 107 [qd 2, qc t, qd n, qe a, qd b])] (.tup [qf true, qd 0]) := by
 clear ok
 generalize l.flatMap PE.pv = L at *
 refine fnIO fun w0 A heap => ?_
 refine G [21, 1, 3] ?_
 skip
 refine G [14] ?_
 exact jas
theorem gl3_s (key : ByteArray) (port : Int) (l : List PE) (ok : CF.OK ⟨key, port, l⟩) (t : ByteArray) (n a b : Int) : FnO prog 128 [.ref 0 0, .agg [qd 3, qc t, qd n, qe a, qd b]] [(0, qj 24 [qc key, qd port, .row 1]), (1, qk 48 5 l.length (l.flatMap PE.pv)), (3, .un)] [(0, qj 24 [qc key, qd port, ql 0 5 []]), (1, qk 48 5 l.length (l.flatMap PE.pv)), (3, qj 107 [qd 3, qc t, qd n, qe a, qd b])] (.tup [qf true, qd 0]) := by
 clear ok
 generalize l.flatMap PE.pv = L at *
 refine fnIO fun w0 A heap => ?_
 refine G [27, 1, 3] ?_
 skip
 refine G [4] ?_
 refine jfc (zhZ (nil_sl (.ref 0 (0 + 2)) 5) (zcM (es := [qc key, qd port, ql 0 5 []]) sz22 rfl rfl (qbe rfl) rfl)) ?_
 refine G [7] ?_
 exact jas
theorem one1a_s (key : ByteArray) (port : Int) (l : List PE) (ok : CF.OK ⟨key, port, l⟩) (pt : ByteArray) (t : ByteArray) (n a b : Int) (h : peN t l < l.length) : FnO prog 93 [.ref 0 0, qc pt, .agg [qd 1, qc t, qd n, qe a, qd b]] [(0, qj 24 [qc key, qd port, .row 1]), (1, qk 48 5 l.length (l.flatMap PE.pv)), (3, .un), (4, .un), (5, .un)] [(0, qj 24 [qc key, qd port, .row 1]), (1, qk 48 5 l.length (l.flatMap PE.pv)), (3, qj 107 [qd 1, qc t, qd n, qe a, qd b]), (4, qj 9 [qc pt]), (5, qj 107 [qd 1, qc t, qd n, qe a, qd b])] (.tup [qc ⟨#[]⟩, qd 14]) := by
 have hG := gl1a_s key port l ok t n a b h
 exact ja9
theorem one1b_s (key : ByteArray) (port : Int) (l : List PE) (ok : CF.OK ⟨key, port, l⟩) (pt : ByteArray) (t : ByteArray) (n a b : Int) (h : ¬ peN t l < l.length) : FnO prog 93 [.ref 0 0, qc pt, .agg [qd 1, qc t, qd n, qe a, qd b]] [(0, qj 24 [qc key, qd port, .row 1]), (1, qk 48 5 l.length (l.flatMap PE.pv)), (3, .un), (4, .un), (5, .un)] [(0, qj 24 [qc t, qd port, .row 1]), (1, qk 48 5 l.length (l.flatMap PE.pv)), (3, qj 107 [qd 1, qc t, qd n, qe a, qd b]), (4, qj 9 [qc pt]), (5, qj 107 [qd 1, qc t, qd n, qe a, qd b])] (.tup [qc ⟨#[]⟩, qd 0]) := by
 have hG := gl1b_s key port l ok t n a b h
 exact ja9
theorem one2_s (key : ByteArray) (port : Int) (l : List PE) (ok : CF.OK ⟨key, port, l⟩) (pt : ByteArray) (t : ByteArray) (n a b : Int) : FnO prog 93 [.ref 0 0, qc pt, .agg [qd 2, qc t, qd n, qe a, qd b]] [(0, qj 24 [qc key, qd port, .row 1]), (1, qk 48 5 l.length (l.flatMap PE.pv)), (3, .un), (4, .un), (5, .un)] [(0, qj 24 [qc key, qd n, .row 1]), (1, qk 48 5 l.length (l.flatMap PE.pv)), (3, qj 107 [qd 2, qc t, qd n, qe a, qd b]), (4, qj 9 [qc pt]), (5, qj 107 [qd 2, qc t, qd n, qe a, qd b])] (.tup [qc ⟨#[]⟩, qd 0]) := by
 have hG := gl2_s key port l ok t n a b
 exact ja9
theorem one3_s (key : ByteArray) (port : Int) (l : List PE) (ok : CF.OK ⟨key, port, l⟩) (pt : ByteArray) (t : ByteArray) (n a b : Int) : FnO prog 93 [.ref 0 0, qc pt, .agg [qd 3, qc t, qd n, qe a, qd b]] [(0, qj 24 [qc key, qd port, .row 1]), (1, qk 48 5 l.length (l.flatMap PE.pv)), (3, .un), (4, .un), (5, .un)] [(0, qj 24 [qc key, qd port, ql 0 5 []]), (1, qk 48 5 l.length (l.flatMap PE.pv)), (3, qj 107 [qd 3, qc t, qd n, qe a, qd b]), (4, qj 9 [qc pt]), (5, qj 107 [qd 3, qc t, qd n, qe a, qd b])] (.tup [qc ⟨#[]⟩, qd 0]) := by
 have hG := gl3_s key port l ok t n a b
 exact ja9
theorem one4own_s (key : ByteArray) (port : Int) (l : List PE) (ok : CF.OK ⟨key, port, l⟩) (pt : ByteArray) (t : ByteArray) (n a b : Int) (h : t = key) : FnO prog 93 [.ref 0 0, qc pt, .agg [qd 4, qc t, qd n, qe a, qd b]] [(0, qj 24 [qc key, qd port, .row 1]), (1, qk 48 5 l.length (l.flatMap PE.pv)), (3, .un), (4, .un), (5, .un)] [(0, qj 24 [qc key, qd port, .row 1]), (1, qk 48 5 l.length (l.flatMap PE.pv)), (3, qj 107 [qd 4, qc t, qd n, qe a, qd b]), (4, qj 9 [qc pt]), (5, qj 107 [qd 4, qc t, qd n, qe a, qd b])] (.tup [qc t, qd 14]) := by
 subst h
 have hG := zhN 4 t n a b qE qE qE
 have hP := pickOwn_s t port l ok
 generalize l.flatMap PE.pv = L at *
 refine fnIO fun w0 A heap => ?_
 refine G [12] ?_
 refine jdH ?_
 refine G [17] ?_
 (first | refine zaa zbH rfl rfl ?_ | refine zaa za4 rfl rfl ?_)
 refine G [9] ?_
 refine zaL (hP) rfl rfl func129 rfl rfl qL rfl ?_
 refine G [4, 9, 0] ?_
 refine jdK ?_ ?_ ?_
 ·exact rfl
 ·exact jb4
 ·exact ja6
theorem one4old_s (key : ByteArray) (port : Int) (l : List PE) (ok : CF.OK ⟨key, port, l⟩) (pt : ByteArray) (t : ByteArray) (n a b : Int) (h0 : t ≠ key) (h : peN t l < l.length) : FnO prog 93 [.ref 0 0, qc pt, .agg [qd 4, qc t, qd n, qe a, qd b]] [(0, qj 24 [qc key, qd port, .row 1]), (1, qk 48 5 l.length (l.flatMap PE.pv)), (3, .un), (4, .un), (5, .un)] [(0, qj 24 [qc key, qd port, .row 1]), (1, qk 48 5 l.length (l.flatMap PE.pv)), (3, qj 107 [qd 4, qc t, qd n, qe a, qd b]), (4, qj 9 [qc pt]), (5, qj 107 [qd 4, qc t, qd n, qe a, qd b])] (.tup [qc t, qd 0]) := by
 have hG := zhN 4 t n a b qE qE qE
 have hP := pickOld_s key port l ok t h0 h
 exact ja7
theorem one4full_s (key : ByteArray) (port : Int) (l : List PE) (ok : CF.OK ⟨key, port, l⟩) (pt : ByteArray) (t : ByteArray) (n a b : Int) (h0 : t ≠ key) (h : ¬ peN t l < l.length) (h2 : l.length = 6) : FnO prog 93 [.ref 0 0, qc pt, .agg [qd 4, qc t, qd n, qe a, qd b]] [(0, qj 24 [qc key, qd port, .row 1]), (1, qk 48 5 l.length (l.flatMap PE.pv)), (3, .un), (4, .un), (5, .un)] [(0, qj 24 [qc key, qd port, .row 1]), (1, qk 48 5 l.length (l.flatMap PE.pv)), (3, qj 107 [qd 4, qc t, qd n, qe a, qd b]), (4, qj 9 [qc pt]), (5, qj 107 [qd 4, qc t, qd n, qe a, qd b])] (.tup [qc t, qd 7]) := by
 have hG := zhN 4 t n a b qE qE qE
 have hP := pickFull_s key port l ok t h0 h h2
 exact ja7
theorem one4new_s (key : ByteArray) (port : Int) (l : List PE) (ok : CF.OK ⟨key, port, l⟩) (pt : ByteArray) (t : ByteArray) (n a b : Int) (h0 : t ≠ key) (h : ¬ peN t l < l.length) (h2 : l.length ≠ 6) (p : Nat) (hp : p ≤ l.length) (hlo : ∀ u, u < p → (hu : u < l.length) → sLt l[u].key t = true) (hhi : ∀ u, p ≤ u → (hu : u < l.length) → ¬ sLt l[u].key t = true) : FnO prog 93 [.ref 0 0, qc pt, .agg [qd 4, qc t, qd n, qe a, qd b]] [(0, qj 24 [qc key, qd port, .row 1]), (1, qk 48 5 l.length (l.flatMap PE.pv)), (3, .un), (4, .un), (5, .un), (48, .un), (49, .un)] [(0, qj 24 [qc key, qd port, .row 49]), (1, .dead), (3, qj 107 [qd 4, qc t, qd n, qe a, qd b]), (4, qj 9 [qc pt]), (5, qj 107 [qd 4, qc t, qd n, qe a, qd b]), (48, .dead), (49, qk 48 5 (l.length + 1) ((l.take p ++ newP t :: l.drop p).flatMap PE.pv))] (.tup [qc t, qd 0]) := by
 have hG := zhN 4 t n a b qE qE qE
 have hP := pickNew_s key port l ok t h0 h h2 p hp hlo hhi
 clear hlo hhi
 generalize (l.take p ++ newP t :: l.drop p).flatMap PE.pv = L' at *
 exact ja7
theorem zgl (k : Int) (key : ByteArray) (port : Int) (l : List PE) (ok : CF.OK ⟨key, port, l⟩) (pt : ByteArray) (t : ByteArray) (n a b : Int) (h1 : k ≠ 1) (h2 : k ≠ 2) (h3 : k ≠ 3) (h4 : k ≠ 4) (h : pt = ⟨#[]⟩ ∨ ¬ peN pt l < l.length) : FnO prog 93 [.ref 0 0, qc pt, .agg [qd k, qc t, qd n, qe a, qd b]] [(0, qj 24 [qc key, qd port, .row 1]), (1, qk 48 5 l.length (l.flatMap PE.pv)), (3, .un), (4, .un), (5, .un)] [(0, qj 24 [qc key, qd port, .row 1]), (1, qk 48 5 l.length (l.flatMap PE.pv)), (3, qj 107 [qd k, qc t, qd n, qe a, qd b]), (4, qj 9 [qc pt]), (5, qj 107 [qd k, qc t, qd n, qe a, qd b])] (.tup [qc ⟨#[]⟩, qd 13]) := by
 have hG := zhN k t n a b h1 h2 h3
 have hP := peerNo_s key port l ok pt h
 generalize l.flatMap PE.pv = L at *
 refine fnIO fun w0 A heap => ?_
 refine G [12] ?_
 refine jdH ?_
 refine G [17, 3, 7] ?_
 refine jdX ?_
 refine G [20, 9, 0] ?_
 exact jas
theorem one5_s (key : ByteArray) (port : Int) (l : List PE) (ok : CF.OK ⟨key, port, l⟩) (pt : ByteArray) (t : ByteArray) (n a b : Int) (h0 : pt ≠ ⟨#[]⟩) (h : peN pt l < l.length) : FnO prog 93 [.ref 0 0, qc pt, .agg [qd 5, qc t, qd n, qe a, qd b]] [(0, qj 24 [qc key, qd port, .row 1]), (1, qk 48 5 l.length (l.flatMap PE.pv)), (3, .un), (4, .un), (5, .un), (48, .un)] [(0, qj 24 [qc key, qd port, .row 48]), (1, .dead), (3, qj 107 [qd 5, qc t, qd n, qe a, qd b]), (4, .dead), (5, qj 107 [qd 5, qc t, qd n, qe a, qd b]), (48, qk 48 5 (delK pt l).length ((delK pt l).flatMap PE.pv))] (.tup [qc ⟨#[]⟩, qd 0]) := by
 have hG := zhN 5 t n a b qE qE qE
 have hP := zfE key port l ok pt h0 h
 have hn := ok.len
 dsimp only at hn
 have hD := rmP_c l pt hn
 generalize (delK pt l).length = N at *
 generalize (delK pt l).flatMap PE.pv = L' at *
 generalize l.flatMap PE.pv = L at *
 refine fnIO fun w0 A heap => ?_
 refine je0 ?_
 refine G [10, 1, 12] ?_
 (first | refine zaa zbH rfl rfl ?_ | refine zaa za4 rfl rfl ?_)
 refine G [3] ?_
 refine zaX (zii 4 4 rfl rfl rfl) ?_
 refine G [7] ?_
 refine jfb zeO ?_
 refine zab (a_callR (rds := []) (o' := 48) (n := l.length) (n' := N) (qs := L') (xs := [.fn 132 [.ptr [qg pt]]]) (cs := []) func131 rfl rfl (seen_data _ rfl (qcv ..)) hD) rfl rfl ⟨rfl, rfl, trivial⟩ ?_
 refine G [10, 9, 0] ?_
 refine jdK ?_ ?_ ?_
 ·exact rfl
 ·exact jb4
 ·exact ja6
theorem one6_s (key : ByteArray) (port : Int) (l : List PE) (ok : CF.OK ⟨key, port, l⟩) (pt : ByteArray) (t : ByteArray) (n a b : Int) (h0 : pt ≠ ⟨#[]⟩) (h : peN pt l < l.length) : FnO prog 93 [.ref 0 0, qc pt, .agg [qd 6, qc t, qd n, qe a, qd b]] [(0, qj 24 [qc key, qd port, .row 1]), (1, qk 48 5 l.length (l.flatMap PE.pv)), (3, .un), (4, .un), (5, .un)] [(0, qj 24 [qc key, qd port, .row 1]), (1, qk 48 5 l.length ((l.set (peN pt l) { l[peN pt l] with sh := t }).flatMap PE.pv)), (3, qj 107 [qd 6, qc t, qd n, qe a, qd b]), (4, qj 9 [qc pt]), (5, qj 107 [qd 6, qc t, qd n, qe a, qd b])] (.tup [qc pt, qd 0]) := by
 have hG := zhN 6 t n a b qE qE qE
 have hP := zfE key port l ok pt h0 h
 have hL : (l.flatMap PE.pv).length = l.length * 5 := zap (f := PE.pv) (k := 5) (fun _ => rfl) l
 have hset := zgH h 1 (qg t) { l[peN pt l] with sh := t } rfl qp
 generalize (l.set (peN pt l) { l[peN pt l] with sh := t }).flatMap PE.pv = L' at *
 generalize l.flatMap PE.pv = L at *
 generalize peN pt l = J at *
 refine fnIO fun w0 A heap => ?_
 refine je0 ?_
 refine G [10, 1, 18] ?_
 exact jbd
theorem one7_s (key : ByteArray) (port : Int) (l : List PE) (ok : CF.OK ⟨key, port, l⟩) (pt : ByteArray) (t : ByteArray) (n a b : Int) (h0 : pt ≠ ⟨#[]⟩) (h : peN pt l < l.length) : FnO prog 93 [.ref 0 0, qc pt, .agg [qd 7, qc t, qd n, qe a, qd b]] [(0, qj 24 [qc key, qd port, .row 1]), (1, qk 48 5 l.length (l.flatMap PE.pv)), (3, .un), (4, .un), (5, .un)] [(0, qj 24 [qc key, qd port, .row 1]), (1, qk 48 5 l.length ((l.set (peN pt l) { l[peN pt l] with ep := t }).flatMap PE.pv)), (3, qj 107 [qd 7, qc t, qd n, qe a, qd b]), (4, qj 9 [qc pt]), (5, qj 107 [qd 7, qc t, qd n, qe a, qd b])] (.tup [qc pt, qd 0]) := by
 have hG := zhN 7 t n a b qE qE qE
 have hP := zfE key port l ok pt h0 h
 have hL : (l.flatMap PE.pv).length = l.length * 5 := zap (f := PE.pv) (k := 5) (fun _ => rfl) l
 have hset := zgH h 2 (qg t) { l[peN pt l] with ep := t } rfl qp
 generalize (l.set (peN pt l) { l[peN pt l] with ep := t }).flatMap PE.pv = L' at *
 generalize l.flatMap PE.pv = L at *
 generalize peN pt l = J at *
 refine fnIO fun w0 A heap => ?_
 refine je0 ?_
 refine G [10, 1, 24] ?_
 exact jbd
theorem one8_s (key : ByteArray) (port : Int) (l : List PE) (ok : CF.OK ⟨key, port, l⟩) (pt : ByteArray) (t : ByteArray) (n a b : Int) (h0 : pt ≠ ⟨#[]⟩) (h : peN pt l < l.length) : FnO prog 93 [.ref 0 0, qc pt, .agg [qd 8, qc t, qd n, qe a, qd b]] [(0, qj 24 [qc key, qd port, .row 1]), (1, qk 48 5 l.length (l.flatMap PE.pv)), (3, .un), (4, .un), (5, .un)] [(0, qj 24 [qc key, qd port, .row 1]), (1, qk 48 5 l.length ((l.set (peN pt l) { l[peN pt l] with al := n }).flatMap PE.pv)), (3, qj 107 [qd 8, qc t, qd n, qe a, qd b]), (4, qj 9 [qc pt]), (5, qj 107 [qd 8, qc t, qd n, qe a, qd b])] (.tup [qc pt, qd 0]) := by
 have hG := zhN 8 t n a b qE qE qE
 have hP := zfE key port l ok pt h0 h
 have hL : (l.flatMap PE.pv).length = l.length * 5 := zap (f := PE.pv) (k := 5) (fun _ => rfl) l
 have hset := zgH h 3 (qh n) { l[peN pt l] with al := n } rfl qp
 generalize (l.set (peN pt l) { l[peN pt l] with al := n }).flatMap PE.pv = L' at *
 generalize l.flatMap PE.pv = L at *
 generalize peN pt l = J at *
 refine fnIO fun w0 A heap => ?_
 refine je0 ?_
 refine G [10, 1, 30] ?_
 (first | refine zaa zbH rfl rfl ?_ | refine zaa za4 rfl rfl ?_)
 refine G [3] ?_
 skip
 refine G [6] ?_
 refine zab (zb3 (Y := qd n) (ys := [qh n]) sz3 rfl rfl rfl qp hset) rfl rfl ⟨rfl, trivial⟩ ?_
 refine G [8] ?_
 refine jdK ?_ ?_ ?_
 ·exact rfl
 ·exact jb4
 ·exact ja6
theorem one9_s (key : ByteArray) (port : Int) (l : List PE) (ok : CF.OK ⟨key, port, l⟩) (pt : ByteArray) (t : ByteArray) (n a b : Int) (h0 : pt ≠ ⟨#[]⟩) (h : peN pt l < l.length) : FnO prog 93 [.ref 0 0, qc pt, .agg [qd 9, qc t, qd n, qe a, qd b]] [(0, qj 24 [qc key, qd port, .row 1]), (1, qk 48 5 l.length (l.flatMap PE.pv)), (3, .un), (4, .un), (5, .un)] [(0, qj 24 [qc key, qd port, .row 1]), (1, qk 48 5 l.length ((l.set (peN pt l) { l[peN pt l] with nets := [] }).flatMap PE.pv)), (3, qj 107 [qd 9, qc t, qd n, qe a, qd b]), (4, qj 9 [qc pt]), (5, qj 107 [qd 9, qc t, qd n, qe a, qd b])] (.tup [qc pt, qd 0]) := by
 have hG := zhN 9 t n a b qE qE qE
 have hP := zfE key port l ok pt h0 h
 have hL : (l.flatMap PE.pv).length = l.length * 5 := zap (f := PE.pv) (k := 5) (fun _ => rfl) l
 have hset := zgH h 4 (.sl 0 2 []) { l[peN pt l] with nets := [] } rfl qp
 generalize (l.set (peN pt l) { l[peN pt l] with nets := [] }).flatMap PE.pv = L' at *
 generalize l.flatMap PE.pv = L at *
 generalize peN pt l = J at *
 refine fnIO fun w0 A heap => ?_
 refine je0 ?_
 refine G [10, 1, 36] ?_
 (first | refine zaa zbH rfl rfl ?_ | refine zaa za4 rfl rfl ?_)
 refine G [3] ?_
 skip
 refine G [4] ?_
 refine zab (zhZ (nil_sl (.ref 1 (J * 5 + 4)) 2) (zb3 (Y := ql 0 2 []) (ys := [.sl 0 2 []]) sz46 rfl rfl rfl qp hset)) rfl rfl ⟨rfl, trivial⟩ ?_
 refine G [8] ?_
 refine jdK ?_ ?_ ?_
 ·exact rfl
 ·exact jb4
 ·exact ja6
def pcA (p : PE) (o : Nat) : List AV := [qc p.key, qc p.sh, qc p.ep, qd p.al, .row o]
def pcs (nm : Nat → Nat) : Nat → List PE → List AV
 | _, [] => []
 | k, p :: l => pcA p (nm k) ++ pcs nm (k + 1) l
def nrow (p : PE) : Slot := qk 82 2 p.nets.length (p.nets.flatMap ntC)
def fams (nm : Nat → Nat) : Nat → List PE → List (Nat × Slot)
 | _, [] => []
 | k, p :: l => (nm k, nrow p) :: fams nm (k + 1) l
theorem pcs_V (nm : Nat → Nat) : ∀ (l : List PE) (k : Nat), CellV (fams nm k l) (pcs nm k l) (l.flatMap PE.pv)
 | [], k => .nil
 | p :: l, k => by
  rw [pcs, fams, qbR]
  refine CellV.append ?_ ((pcs_V nm l (k + 1)).mono fun x hx => qcx _ hx)
  exact .p _ _ _ (.p _ _ _ (.p _ _ _ (.p _ _ _ (.row _ _ _ _ _ _ _ (qcv ..) .nil))))
theorem zer (nm : Nat → Nat) : ∀ (l : List PE) (k : Nat), (pcs nm k l).length = l.length * 5
 | [], k => rfl
 | p :: l, k => by rw [pcs, qbg, zer nm l (k + 1), qbs]; simp [pcA]; omega
theorem zcE {nm : Nat → Nat} : ∀ {l : List PE} {k : Nat} {q : Nat × Slot}, q ∈ fams nm k l ↔ ∃ i, ∃ h : i < l.length, q = (nm (k + i), nrow l[i])
 | [], k, q => by simp [fams]
 | p :: l, k, q => by
  rw [fams, qbm, zcE (l := l)]
  constructor
  ·rintro (rfl | ⟨i, h, rfl⟩)
   ·exact ⟨0, qC, qC⟩
   ·exact ⟨i + 1, by simpa using h, by simp [qcL, Nat.add_comm 1 i]⟩
  ·rintro ⟨i, h, rfl⟩
   cases i with
   | zero => exact .inl qC
   | succ i => exact .inr ⟨i, by simpa using h, by simp [qcL, Nat.add_comm 1 i]⟩
theorem zeA (nm : Nat → Nat) : ∀ (l : List PE) (k : Nat), (fams nm k l).all (fun p => match p.2 with | .live _ => true | _ => false) = true
 | [], k => rfl
 | p :: l, k => by rw [fams, List.all_cons, zeA nm l (k + 1)]; rfl
theorem pcs_at (nm : Nat → Nat) : ∀ (l : List PE) (k i : Nat), i < l.length → (pcs nm k l)[i * 5 + 4]? = some (.row (nm (k + i)))
 | p :: l, k, 0, _ => by rw [pcs]; simp [pcA]
 | p :: l, k, i + 1, h => by
  rw [pcs, qb1 (by simp [pcA]; omega)]
  rw [show (i + 1) * 5 + 4 - (pcA p (nm k)).length = i * 5 + 4 by simp [pcA]; omega]
  rw [pcs_at nm l (k + 1) i (by simpa using h), show k + 1 + i = k + (i + 1) by omega]
theorem zhv (nm : Nat → Nat) : ∀ (l m : List PE) (k : Nat), pcs nm k (l ++ m) = pcs nm k l ++ pcs nm (k + l.length) m
 | [], m, k => rfl
 | p :: l, m, k => by
  rw [qbG, pcs, pcs, zhv nm l m (k + 1), qbB, qbs]
  congr 3
  omega
theorem zes {nm nm' : Nat → Nat} : ∀ (l : List PE) (k : Nat), (∀ i, i < l.length → nm (k + i) = nm' (k + i)) → pcs nm k l = pcs nm' k l
 | [], k, _ => rfl
 | p :: l, k, h => by
  have h0 := h 0 qC
  rw [qb0] at h0
  have ih := zes (nm := nm) (nm' := nm') l (k + 1) fun i hi => by
   have := h (i + 1) qX
   rwa [show k + (i + 1) = k + 1 + i by omega] at this
  show pcA p (nm k) ++ pcs nm (k + 1) l = pcA p (nm' k) ++ pcs nm' (k + 1) l
  rw [ih, h0]
theorem zdd {st : St} : ∀ {L : List (Nat × Slot)}, (∀ p ∈ L, st.heap p.1 = p.2) → Rds st L
 | [], _ => trivial
 | p :: L, h => ⟨h p qC, zdd fun q hq => h q (by simp [hq])⟩
theorem zcn {h : Nat → Slot} {o q : Nat} {s : Slot} (hne : o ≠ q) : updL h [(q, s)] o = h o := by simp only [updL, nbeq hne, cond_false]
theorem zb0 {h : Nat → Slot} : ∀ {L : List (Nat × Slot)}, (L.map Prod.fst).Nodup → ∀ p ∈ L, updL h L p.1 = p.2
 | [], _, p, hp => by cases hp
 | (n, s) :: L, hn, p, hp => by
  simp only [qbj, List.nodup_cons] at hn
  rcases qbm.1 hp with rfl | hp
  ·simp [updL]
  ·have hne : p.1 ≠ n := fun e => hn.1 (e ▸ qbo.2 ⟨p, hp, rfl⟩)
   simp only [updL, nbeq hne, cond_false]
   exact zb0 hn.2 p hp
def D0 (key : ByteArray) (port : Int) : Slot := qj 24 [qc key, qd port, .row 1]
theorem peerT_s (key : ByteArray) (port : Int) (l : List PE) (ok : CF.OK ⟨key, port, l⟩) (pt : ByteArray) (cs : List AV) (fam : List (Nat × Slot)) (hV : CellV fam cs (l.flatMap PE.pv)) (hl : fam.all (fun p => match p.2 with | .live _ => true | _ => false) = true)
 (hnd : ((0 :: 1 :: fam.map Prod.fst)).Nodup) (h0 : pt ≠ ⟨#[]⟩) (h1 : peN pt l < l.length) :
 FnO prog 130 [.ref 0 0, qc pt] ((0, D0 key port) :: (1, .live (.rowA 48 5 l.length none cs)) :: fam) ((0, D0 key port) :: (1, .live (.rowA 48 5 l.length none cs)) :: fam) (.tup [.ref 1 (peN pt l * 5), qd 0]) := by
 have hF := zgO ⟨key, port, l⟩ ok pt
 change Fn prog _ [.agg [qc key, qd port, ql l.length 5 (l.flatMap PE.pv)], _] (if peN pt l < l.length then _ else _) _ at hF
 rw [if_pos h1] at hF
 have hn := ok.len
 dsimp only at hn
 clear ok
 generalize l.flatMap PE.pv = L at *
 generalize peN pt l = N at *
 obtain ⟨fam', hfam'⟩ : ∃ f : List (Nat × Slot), (0, D0 key port) :: (1, .live (.rowA 48 5 l.length none cs)) :: fam = f := ⟨_, rfl⟩
 have hnd' : (fam'.map Prod.fst).Nodup := by rw [← hfam']; exact hnd
 rw [hfam']
 refine fnIO fun w0 A heap => ?_
 have hall := zb0 (h := heap) hnd'
 have e0 : updL heap fam' 0 = D0 key port := hall (0, D0 key port) (by rw [← hfam']; exact qcv ..)
 have e1 : updL heap fam' 1 = .live (.rowA 48 5 l.length none cs) := hall (1, .live (.rowA 48 5 l.length none cs)) (by rw [← hfam']; exact qcx _ (qcv ..))
 have e12 : ∀ p ∈ (1, Slot.live (.rowA 48 5 l.length none cs)) :: fam, updL heap fam' p.1 = p.2 := fun p hp => hall p (by rw [← hfam']; exact qcx _ hp)
 obtain ⟨H, hH⟩ : ∃ H, updL heap fam' = H := ⟨_, rfl⟩
 rw [hH] at hall e0 e1 e12 ⊢
 unfold D0 at e0
 refine G [9] ?_
 refine zab (zao (es := [qc key, qd port, .row 1]) U24 rfl sz24 (qbe rfl) rfl) rfl rfl ⟨e0, trivial⟩ ?_
 refine jdJ ?_
 refine zab (a_callD (fam := fam) (ps := L) func42 rfl rfl hV hl hF rfl rfl) rfl rfl (zdd e12) ?_
 refine G [10, 3, 12] ?_
 refine zab (zbr U22 rfl rfl) rfl rfl ⟨e0, trivial⟩ ?_
 refine jdJ ?_
 refine zab (zaI U22 sz48 qp qp (q := N * 5) qaV) rfl rfl ⟨e1, trivial⟩ ?_
 refine G [4] ?_
 refine jdK ?_ ?_ ?_
 ·exact rfl
 ·exact zdd fun p hp => hall p hp
 ·intro o ho
  show H o = heap o
  rw [← hH]
  refine zaz fun hm => ?_
  obtain ⟨p, hp, rfl⟩ := qbo.1 hm
  have := List.any_eq_false.1 ho p hp
  simp at this
def dnP (n : NtP) (p : PE) : PE := { p with nets := delN n p.nets }
def dnL (n : NtP) (l : List PE) : List PE := l.map (dnP n)
theorem zbo (n : NtP) (l : List PE) : (dnL n l).length = l.length := qbu _
theorem dnL_at (n : NtP) (l : List PE) (i : Nat) (h : i < l.length) : (dnL n l)[i]'(by rw [zbo]; exact h) = dnP n l[i] := List.getElem_map _
theorem dnL_peN (n : NtP) (k : ByteArray) : ∀ l : List PE, peN k (dnL n l) = peN k l
 | [] => rfl
 | p :: l => by
  show (if (dnP n p).key = k then 0 else peN k (dnL n l) + 1) = if p.key = k then 0 else peN k l + 1
  rw [dnL_peN n k l]
  rfl
theorem zcu {n : NtP} {l : List NtP} : (delN n l).length ≤ l.length ∧ ∀ m ∈ delN n l, m ∈ l := ⟨List.length_filter_le _ _, fun m hm => (qcq.1 hm).1⟩
theorem dnL_ok {key : ByteArray} {port : Int} {n : NtP} {l : List PE} (ok : CF.OK ⟨key, port, l⟩) : CF.OK ⟨key, port, dnL n l⟩ := by
 refine ⟨by have := ok.len; simpa [zbo] using this, fun p hp => ?_⟩
 obtain ⟨q, hq, rfl⟩ := qbo.1 hp
 obtain ⟨h1, h2⟩ := ok.ps q hq
 have h3 := @zcu n q.nets
 exact ⟨⟨h1.ep, qcd h3.1 h1.len, fun m hm => h1.nets m (h3.2 m hm)⟩, qcd h3.1 h2⟩
theorem zfX (nm : Nat → Nat) : ∀ (l : List PE) (k : Nat), (fams nm k l).map Prod.fst = (List.range l.length).map fun i => nm (k + i)
 | [], k => rfl
 | p :: l, k => by
  rw [fams, qbj, zfX nm l (k + 1), qbs, List.range_succ_eq_map, qbj, qbW]
  congr 1
  apply qcb
  intro i _
  show nm (k + 1 + i) = nm (k + (i + 1))
  congr 1; omega
def mvC (n : NtP) (l : List PE) (k : Nat) : List AV := pcs (fun i => i + 1100) 0 ((dnL n l).take k) ++ pcs (fun i => i + 1000) k (l.drop k)
theorem mvC_len (n : NtP) (l : List PE) (k : Nat) (hk : k ≤ l.length) : (mvC n l k).length = l.length * 5 := by
 unfold mvC
 rw [qbg, zer, zer, List.length_take, qby, zbo]
 omega
theorem mvC_at (n : NtP) (l : List PE) (k : Nat) (hk : k < l.length) : (mvC n l k)[k * 5 + 4]? = some (.row (k + 1000)) := by
 unfold mvC
 have h1 : (pcs (fun i => i + 1100) 0 ((dnL n l).take k)).length = k * 5 := by rw [zer, List.length_take, zbo]; omega
 rw [qb1 (by omega), h1, show k * 5 + 4 - k * 5 = 0 * 5 + 4 by omega, pcs_at _ _ _ 0 (by rw [qby]; omega)]
theorem pcA_set (p : PE) (o o' : Nat) (ns : List NtP) (A D : List AV) : setR (A ++ (pcA p o ++ D)) (A.length + 4) [.row o'] = A ++ (pcA { p with nets := ns } o' ++ D) := by
 unfold setR
 have h1 : (A ++ (pcA p o ++ D)).take (A.length + 4) = A ++ (pcA p o).take 4 := by
  rw [List.take_append, qbr (by omega), Nat.add_sub_cancel_left, qbH (by simp [pcA])]
 have h2 : (A ++ (pcA p o ++ D)).drop (A.length + 4 + [AV.row o'].length) = D := by
  rw [List.drop_append, qbS (by omega), qbK, show A.length + 4 + [AV.row o'].length - A.length = (pcA p o).length by simp [pcA]; omega, qcO]
 rw [h1, h2]
 simp [pcA]
theorem mvC_step (n : NtP) (l : List PE) (k : Nat) (hk : k < l.length) : setR (mvC n l k) (k * 5 + 4) [.row (k + 1100)] = mvC n l (k + 1) := by
 have h1 : (pcs (fun i => i + 1100) 0 ((dnL n l).take k)).length = k * 5 := by rw [zer, List.length_take, zbo]; omega
 unfold mvC
 rw [qbY hk, pcs, ← h1, pcA_set l[k] _ _ (delN n l[k].nets)]
 have h2 : (dnL n l).take (k + 1) = (dnL n l).take k ++ [dnP n l[k]] := by
  rw [qbn (by rw [zbo]; exact hk), dnL_at n l k hk]
 have h3 : ((dnL n l).take k).length = k := by rw [List.length_take, zbo]; omega
 rw [h2, zhv, h3, Nat.zero_add, qbB]
 simp [pcs, dnP]
theorem pcs_set (nm : Nat → Nat) (l : List PE) (j o : Nat) (hj : j < l.length) (ns : List NtP) : setR (pcs nm 0 l) (j * 5 + 4) [.row o] = pcs (fun i => if i = j then o else nm i) 0 (l.set j { l[j] with nets := ns }) := by
 have h1 : l = l.take j ++ l[j] :: l.drop (j + 1) := qas
 have h2 : l.set j { l[j] with nets := ns } = l.take j ++ { l[j] with nets := ns } :: l.drop (j + 1) := qaT
 have h3 : (l.take j).length = j := qN
 have h4 : (pcs nm 0 (l.take j)).length = j * 5 := by rw [zer, h3]
 rw [h2]
 conv => lhs; rw [h1]
 rw [zhv, zhv, h3, Nat.zero_add, pcs, pcs, ← h4, pcA_set l[j] _ _ ns]
 rw [if_pos rfl, zes (nm := fun i => if i = j then o else nm i) (nm' := nm) (l.take j) 0 (fun i hi => by rw [List.length_take] at hi; exact if_neg (by omega)), zes (nm := fun i => if i = j then o else nm i) (nm' := nm) (l.drop (j + 1)) (j + 1) (fun i hi => if_neg (by omega))]
def mvU : List (Nat × Slot) := [(1100, .un), (1101, .un), (1102, .un), (1103, .un), (1104, .un), (1105, .un)]
def mvR (key : ByteArray) (port : Int) (l : List PE) : List (Nat × Slot) := (0, D0 key port) :: (1, .live (.rowA 48 5 l.length none (pcs (fun i => i + 1000) 0 l))) :: (64, .un) :: (65, .un) :: (66, .un) :: (fams (fun i => i + 1000) 0 l ++ mvU)
def mvW (key : ByteArray) (port : Int) (l l' : List PE) : List (Nat × Slot) := (0, D0 key port) :: (1, qk 48 5 l.length (l'.flatMap PE.pv)) :: (64, .dead) :: (65, .dead) :: (66, .dead) :: ((fams (fun i => i + 1000) 0 l).map (fun p => (p.1, Slot.dead)) ++ mvU.map fun p => (p.1, Slot.dead))
def mvN (n : Nat) : List Nat := 0 :: 1 :: 64 :: 65 :: 66 :: ((List.range n).map (fun i => i + 1000) ++ [1100, 1101, 1102, 1103, 1104, 1105])
theorem mvN_nd : ∀ n, n < 7 → (mvN n).Nodup := qE
theorem mvN_nd2 : ∀ n, n < 7 → (0 :: 1 :: (List.range n).map fun i => 0 + i + 1100).Nodup := qE
theorem zgo (key : ByteArray) (port : Int) (l : List PE) : (mvR key port l).map Prod.fst = mvN l.length := by
 unfold mvR mvN
 rw [qbj, qbj, qbj, qbj, qbj, qbF, zfX]
 simp [mvU]
theorem zfe (key : ByteArray) (port : Int) (l l' : List PE) : (mvW key port l l').map Prod.fst = mvN l.length := by
 unfold mvW mvN
 rw [qbj, qbj, qbj, qbj, qbj, qbF, qbW]
 have : (fams (fun i => i + 1000) 0 l).map (Prod.fst ∘ fun p => (p.1, Slot.dead)) = (fams (fun i => i + 1000) 0 l).map Prod.fst := rfl
 rw [this, zfX]
 simp [mvU]
theorem zb5 {n o : Nat} : o ∈ mvN n ↔ o = 0 ∨ o = 1 ∨ o = 64 ∨ o = 65 ∨ o = 66 ∨ (1000 ≤ o ∧ o < 1000 + n) ∨ (1100 ≤ o ∧ o ≤ 1105) := by
 unfold mvN
 simp only [qbm, qbz, qbo, qcF, qb4, or_false]
 constructor
 ·rintro (h | h | h | h | h | ⟨i, h, rfl⟩ | h) <;> omega
 ·rintro (h | h | h | h | h | h | h)
  ·exact .inl h
  ·exact .inr (.inl h)
  ·exact .inr (.inr (.inl h))
  ·exact .inr (.inr (.inr (.inl h)))
  ·exact .inr (.inr (.inr (.inr (.inl h))))
  ·exact .inr (.inr (.inr (.inr (.inr (.inl ⟨o - 1000, qp, qp⟩)))))
  ·exact .inr (.inr (.inr (.inr (.inr (.inr qp)))))
theorem mv_end {key : ByteArray} {port : Int} {l l' : List PE} (h7 : l.length < 7) {heap H : Nat → Slot} (e0 : H 0 = D0 key port) (e1 : H 1 = qk 48 5 l.length (l'.flatMap PE.pv)) (er : ∀ o, o ∉ mvN l.length → H o = heap o) (o : Nat) :
 H o = updL heap (mvW key port l l') o ∨ updL heap (mvW key port l l') o = .dead := by
 by_cases ho : o ∈ mvN l.length
 ·have hnd : ((mvW key port l l').map Prod.fst).Nodup := qa0
  rw [← zfe key port l l'] at ho
  obtain ⟨p, hp, rfl⟩ := qbo.1 ho
  have hv := zb0 (h := heap) hnd p hp
  rw [hv]
  unfold mvW at hp
  simp only [qbm, qbz, qbo] at hp
  rcases hp with rfl | rfl | rfl | rfl | rfl | ⟨q, _, rfl⟩ | ⟨q, _, rfl⟩
  ·exact .inl e0
  ·exact .inl e1
  all_goals exact .inr rfl
 ·left
  rw [er o ho, zaz (by rw [zfe]; exact ho)]
theorem mv_fin {P : Program} {rs : List ResultVar} {res : AV} {key : ByteArray} {port : Int} {l l' : List PE} (h7 : l.length < 7) {heap : Nat → Slot} {tm : Nat → AV} {e : Exit} (he : e = .normal ∨ e = .ret) (vals : List AV) (hx : ∀ H, ResIs P ⟨tm, H⟩ rs vals) (hr : oneA vals = res) :
 FinO P rs res heap (mvW key port l l') e ⟨tm, updL heap (mvW key port l l')⟩ := by
 have hnd : ((mvW key port l l').map Prod.fst).Nodup := qa0
 refine ⟨he, ⟨vals, hx _, hr⟩, zdd fun p hp => zb0 hnd p hp, fun o ho => zaz fun hm => ?_⟩
 obtain ⟨p, hp, rfl⟩ := qbo.1 hm
 have := List.any_eq_false.1 ho p hp
 simp at this
theorem moveX_s (key : ByteArray) (port : Int) (l : List PE) (ok : CF.OK ⟨key, port, l⟩) (pt : ByteArray) (n : NtP) (hpt : pt ≠ ⟨#[]⟩) (hJ : peN pt l < l.length) (h6 : l.length ≤ 6) (r : Int) (l' : List PE)
 (hr : (r = 7 ∧ (delN n l[peN pt l].nets).length = 8 ∧ l' = dnL n l) ∨ (r = 0 ∧ (delN n l[peN pt l].nets).length ≠ 8 ∧ ∃ p : Nat, p ≤ (delN n l[peN pt l].nets).length ∧ (∀ u, u < p → (hu : u < (delN n l[peN pt l].nets).length) → zbI (delN n l[peN pt l].nets)[u].1 (delN n l[peN pt l].nets)[u].2 n.1 n.2 < 0) ∧
  (∀ u, p ≤ u → (hu : u < (delN n l[peN pt l].nets).length) → ¬ zbI (delN n l[peN pt l].nets)[u].1 (delN n l[peN pt l].nets)[u].2 n.1 n.2 < 0) ∧
  l' = (dnL n l).set (peN pt l) { l[peN pt l] with nets := (delN n l[peN pt l].nets).take p ++ n :: (delN n l[peN pt l].nets).drop p })) :
 FnO prog 133 [.ref 0 0, qc pt, .agg ((ntC n).map AV.p)] (mvR key port l) (mvW key port l l') (qd r) := by
 have h7 : l.length < 7 := qp
 have hnd : ((mvR key port l).map Prod.fst).Nodup := by rw [zgo]; exact mvN_nd _ h7
 refine fnIO fun w0 A heap => ?_
 have hall := zb0 (h := heap) hnd
 have e0 : updL heap (mvR key port l) 0 = D0 key port := hall (0, D0 key port) qbd
 have e1 : updL heap (mvR key port l) 1 = .live (.rowA 48 5 l.length none (pcs (fun i => i + 1000) 0 l)) := hall (1, _) qbd
 have e64 : updL heap (mvR key port l) 64 = .un := hall (64, .un) qbd
 have e65 : updL heap (mvR key port l) 65 = .un := hall (65, .un) qbd
 have e66 : updL heap (mvR key port l) 66 = .un := hall (66, .un) qbd
 have eF : ∀ u, (h : u < l.length) → updL heap (mvR key port l) (u + 1000) = nrow l[u] := fun u h => hall (u + 1000, nrow l[u]) (by
  unfold mvR
  simp only [qbm, qbz]
  exact .inr (.inr (.inr (.inr (.inr (.inl (zcE.2 ⟨u, h, by rw [Nat.zero_add]⟩)))))))
 have eU : ∀ u, u < 6 → updL heap (mvR key port l) (u + 1100) = .un := fun u h => hall (u + 1100, .un) (by
  unfold mvR mvU
  have : u = 0 ∨ u = 1 ∨ u = 2 ∨ u = 3 ∨ u = 4 ∨ u = 5 := qp
  rcases this with rfl | rfl | rfl | rfl | rfl | rfl <;> simp)
 have er : ∀ o, o ∉ mvN l.length → updL heap (mvR key port l) o = heap o := fun o ho => zaz (by rw [zgo]; exact ho)
 obtain ⟨H, hH⟩ : ∃ H, updL heap (mvR key port l) = H := ⟨_, rfl⟩
 rw [hH] at hall e0 e1 e64 e65 e66 eF eU er ⊢
 clear hall hH hnd
 unfold D0 at e0
 refine G [2] ?_
 refine zab (a_box (X := .agg ((ntC n).map AV.p)) 64 rfl) rfl rfl ⟨e64, trivial⟩ ?_
 refine G [4] ?_
 refine zaX (zii (cs := ntC n) 5 64 rfl rfl rfl) ?_
 skip
 refine G [4] ?_
 refine zab (zbr U22 rfl rfl) rfl rfl ⟨e0, trivial⟩ ?_
 refine zab (a_lenRA U22) rfl rfl ⟨e1, trivial⟩ ?_
 refine G [2] ?_
 refine jdt ?_
 refine awp_loopO (fun m st => ∃ k : Nat, ∃ GV : Nat → Slot, m + k = l.length ∧ st = ⟨zcV [(0, .ref 0 0), (1, qc pt), (5, .ptr (ntC n)), (17, qd l.length), (18, qd k)], GV⟩ ∧ GV 0 = D0 key port ∧ GV 1 = .live (.rowA 48 5 l.length none (mvC n l k)) ∧ GV 65 = .un ∧ GV 66 = .un ∧
  (∀ u, (h : u < l.length) → u < k → GV (u + 1100) = nrow (dnP n l[u])) ∧ (∀ u, (h : u < l.length) → k ≤ u → GV (u + 1000) = nrow l[u]) ∧ (∀ u, k ≤ u → u < 6 → GV (u + 1100) = .un) ∧ ∀ o, o ∉ mvN l.length → GV o = heap o) l.length ?_ ?_
 ·have ne : ∀ o, o ≠ 64 → updL (updL H [(64, qj 82 ((ntC n).map AV.p))]) [(64, .dead)] o = H o := fun o ho => by rw [zcn ho, zcn ho]
  refine ⟨_, zdM [(0, .ref 0 0), (1, qc pt), (5, .ptr (ntC n)), (17, qd l.length), (18, qd (0 : Nat))] (updL (updL H [(64, qj 82 ((ntC n).map AV.p))]) [(64, .dead)]) qL (fun o => .inl rfl), 0, _, qp, rfl, (ne 0 qE).trans e0, (ne 1 qE).trans e1, (ne 65 qE).trans e65, (ne 66 qE).trans e66, fun u h hu => by omega, fun u h _ => (ne _ qp).trans (eF u h), fun u _ hu => (ne _ qp).trans (eU u hu), fun o ho => (ne o fun e => ho qac).trans (er o ho)⟩
 clear e0 e1 e64 e65 e66 eF eU er
 rintro m st ⟨k, GV, hm, rfl, e0, e1, e65, e66, eD, eF, eU, er⟩
 unfold D0 at e0
 refine G [5] ?_
 refine cX ?_ ?_ <;> intro h
 ·have hlt : k < l.length := qu
  clear h
  have hcl := mvC_len n l k qp
  have hat := mvC_at n l k hlt
  have hst := mvC_step n l k hlt
  have hoF := eF k hlt (Nat.le_refl k)
  have hoU := eU k (Nat.le_refl k) qp
  have hC := rmN_c l[k].nets n (ok.ps l[k] (qce hlt)).2
  unfold nrow at hoF
  refine G [13] ?_
  refine zab (zbr U22 rfl rfl) rfl rfl ⟨e0, trivial⟩ ?_
  refine jdJ ?_
  refine zab (zaI U22 sz48 qp qp (q := k * 5) qaV) rfl rfl ⟨e1, trivial⟩ ?_
  refine G [7] ?_
  refine zab (zbw U46 rfl hat) rfl rfl ⟨e1, trivial⟩ ?_
  refine jfb zeO ?_
  refine zab (a_callR (rds := []) (o := k + 1000) (o' := k + 1100) (n := l[k].nets.length) (n' := (delN n l[k].nets).length) (ps := l[k].nets.flatMap ntC) (qs := (delN n l[k].nets).flatMap ntC) (xs := [.fn 170 [.ptr (ntC n)]]) (cs := []) func169 rfl rfl (seen_data _ rfl (qcv ..)) hC) rfl rfl ⟨hoF, hoU, trivial⟩ ?_
  refine G [2] ?_
  refine zab (zcx (Y := .row (k + 1100)) (cs := mvC n l k) sz46 rfl rfl qa1 hst) rfl rfl ⟨(by show updL _ _ 1 = _; simp only [updL, nbeq (show 1 ≠ k + 1100 by omega), nbeq (show 1 ≠ k + 1000 by omega), cond_false]; exact e1), trivial⟩ ?_
  refine G [5] ?_
  refine jdt ?_
  obtain ⟨G1, hG1⟩ : ∃ G1 : Nat → Slot, G1 = updL (updL GV [(k + 1100, qk 82 2 (delN n l[k].nets).length ((delN n l[k].nets).flatMap ntC)), (k + 1000, .dead)]) [(1, .live (.rowA 48 5 l.length none (mvC n l (k + 1))))] := ⟨_, rfl⟩
  have ne : ∀ o, o ≠ 1 → o ≠ k + 1100 → o ≠ k + 1000 → G1 o = GV o := fun o a1 a2 a3 => by rw [hG1]; simp only [updL, nbeq a1, nbeq a2, nbeq a3, cond_false]
  refine ⟨m - 1, qp, _, zdM [(0, .ref 0 0), (1, qc pt), (5, .ptr (ntC n)), (17, qd l.length), (18, qd (k + 1 : Nat))] G1 qL (fun o => .inl (by rw [hG1]; rfl)), k + 1, G1, qp, rfl, (ne 0 qp qp qp).trans e0, by rw [hG1]; rfl, (ne 65 qp qp qp).trans e65, (ne 66 qp qp qp).trans e66, fun u h hu => ?_, fun u h hu => (ne _ qp qp qp).trans (eF u h qp), fun u hu h6 => (ne _ qp qp qp).trans (eU u qp h6), fun o ho => (ne o (fun e => ho qac) (fun e => ho qac) (fun e => ho qac)).trans (er o ho)⟩
  by_cases huk : u = k
  ·subst huk
   rw [hG1]
   simp only [updL, nbeq (show u + 1100 ≠ 1 by omega), qca, cond_false, cond_true]
   rfl
  ·exact (ne _ qp qp qp).trans (eD u h qp)
 have hge : k = l.length := qu
 clear h
 subst hge
 have hC1 : mvC n l l.length = pcs (fun i => i + 1100) 0 (dnL n l) := by
  unfold mvC
  rw [List.drop_length, qbr (by rw [zbo]; exact Nat.le_refl _)]
  exact qbA _
 rw [hC1] at e1
 have eD' : ∀ p ∈ fams (fun i => i + 1100) 0 (dnL n l), GV p.1 = p.2 := fun p hp => by
  obtain ⟨i, hi, rfl⟩ := zcE.1 hp
  rw [zbo] at hi
  show GV (0 + i + 1100) = nrow ((dnL n l)[i]'(by rw [zbo]; exact hi))
  rw [Nat.zero_add, dnL_at n l i hi]
  exact eD i hi hi
 obtain ⟨J, hJe⟩ : ∃ J, peN pt l = J := ⟨_, rfl⟩
 have hP := peerT_s key port (dnL n l) (dnL_ok ok) pt _ _ (pcs_V (fun i => i + 1100) (dnL n l) 0) (zeA _ _ _) (by rw [zfX, zbo]; exact mvN_nd2 _ h7) hpt (by rw [dnL_peN, zbo]; exact hJ)
 rw [dnL_peN, zbo] at hP
 have hall7 : ∀ p ∈ (0, D0 key port) :: (1, Slot.live (.rowA 48 5 l.length none (pcs (fun i => i + 1100) 0 (dnL n l)))) :: fams (fun i => i + 1100) 0 (dnL n l), GV p.1 = p.2 := fun p hp => by
  rcases qbm.1 hp with rfl | hp
  ·exact e0
  rcases qbm.1 hp with rfl | hp
  ·exact e1
  ·exact eD' p hp
 have hself := zeh hall7
 simp only [hJe] at hr hP hJ
 have hatJ : (pcs (fun i => i + 1100) 0 (dnL n l))[J * 5 + 4]? = some (.row (J + 1100)) := by
  have := pcs_at (fun i => i + 1100) (dnL n l) 0 J (by rw [zbo]; exact hJ)
  rwa [Nat.zero_add] at this
 have hcl : (pcs (fun i => i + 1100) 0 (dnL n l)).length = l.length * 5 := by rw [zer, zbo]
 have eJ := eD J hJ hJ
 unfold nrow dnP at eJ
 dsimp only at eJ
 have hnl : (delN n l[J].nets).length ≤ 1048576 := qcd zcu.1 (ok.ps l[J] (qce hJ)).2
 refine G [5] ?_
 refine zaL hP rfl rfl F130 rfl rfl (zdd hall7) rfl ?_
 refine G [6] ?_
 refine za7 (zdM [(0, .ref 0 0), (1, qc pt), (5, .ptr (ntC n)), (9, .ref 1 (J * 5))] GV qL (fun o => .inl (congrFun hself o))) ?_
 rcases hr with ⟨rfl, h8, rfl⟩ | ⟨rfl, h8, p, hp, hlo, hhi, rfl⟩
 ·refine G [6] ?_
  refine zab (zbw U46 rfl hatJ) rfl rfl ⟨e1, trivial⟩ ?_
  refine zab (a_lenR U46) rfl rfl ⟨eJ, trivial⟩ ?_
  refine zaa (a_eqlV (c := true) (by rw [h8]; rfl)) rfl rfl ?_
  refine G [6] ?_
  refine za7 (zd1 (o := 1) (pcs_V (fun i => i + 1100) (dnL n l) 0) eD' (zeA _ _ _) e1 (fun hm => ?_)) ?_
  ·obtain ⟨q, hq, hq1⟩ := qbo.1 hm
   obtain ⟨i, hi, rfl⟩ := zcE.1 hq
   dsimp only at hq1
   omega
  have ne : ∀ o, o ≠ 1 → (∀ i, i < 6 → o ≠ i + 1100) → updL GV ((1, qk 48 5 l.length ((dnL n l).flatMap PE.pv)) :: (fams (fun i => i + 1100) 0 (dnL n l)).map fun p => (p.1, .dead)) o = GV o := fun o a1 a2 => zaz fun hm => by
   simp only [qbj, qbm, qbW, qbo] at hm
   rcases hm with hm | ⟨q, hq, hq1⟩
   ·exact a1 hm
   ·obtain ⟨i, hi, rfl⟩ := zcE.1 hq
    rw [zbo] at hi
    exact a2 i qp (by rw [← hq1]; show 0 + i + 1100 = _; omega)
  refine zaX (zdM [(6, qd 7)] (updL heap (mvW key port l (dnL n l))) ⟨rfl, trivial⟩ (mv_end h7 ((ne 0 qE (fun i _ => by omega)).trans e0) rfl (fun o ho => (ne o (fun e => ho qac) (fun i hi e => ho qac)).trans (er o ho)))) ?_
  refine zaA (zbA ?_)
  exact mv_fin h7 qO _ (fun H => .tmp _ _ _ _ rfl .nil) rfl
 ·refine G [6] ?_
  refine zab (zbw U46 rfl hatJ) rfl rfl ⟨e1, trivial⟩ ?_
  refine zab (a_lenR U46) rfl rfl ⟨eJ, trivial⟩ ?_
  refine G [0, 3, 2] ?_
  obtain ⟨fb, hB⟩ := bsN_s (delN n l[J].nets) n p hnl hp hlo hhi
  have hI := inN_c (delN n l[J].nets) n p hp hnl
  have hset := pcs_set (fun i => i + 1100) (dnL n l) J 66 (by rw [zbo]; exact hJ) ((delN n l[J].nets).take p ++ n :: (delN n l[J].nets).drop p)
  rw [dnL_at n l J hJ] at hset
  change setR _ _ _ = pcs (fun i => if i = J then 66 else i + 1100) 0 ((dnL n l).set J { l[J] with nets := (delN n l[J].nets).take p ++ n :: (delN n l[J].nets).drop p }) at hset
  have hNl : ((delN n l[J].nets).take p ++ n :: (delN n l[J].nets).drop p).length = (delN n l[J].nets).length + 1 := by
   exact jcy
  obtain ⟨ns, hns⟩ : ∃ ns, (delN n l[J].nets).take p ++ n :: (delN n l[J].nets).drop p = ns := ⟨_, rfl⟩
  rw [hns] at hset hNl hI
  rw [hns]
  clear hlo hhi
  obtain ⟨l', hl'⟩ : ∃ l' : List PE, (dnL n l).set J { l[J] with nets := ns } = l' := ⟨_, rfl⟩
  have hll : l'.length = l.length := by rw [← hl', List.length_set, zbo]
  obtain ⟨G2, hG2⟩ : ∃ G2 : Nat → Slot, G2 = updL (updL (updL GV [(65, qj 82 ((ntC n).map AV.p))]) [(66, qk 82 2 ((delN n l[J].nets).length + 1) (ns.flatMap ntC)), (J + 1100, .dead), (65, .dead)]) [(1, .live (.rowA 48 5 l.length none (pcs (fun i => if i = J then 66 else i + 1100) 0 l')))] := ⟨_, rfl⟩
  have ne : ∀ o, o ≠ 1 → o ≠ 65 → o ≠ 66 → o ≠ J + 1100 → G2 o = GV o := fun o a1 a2 a3 a4 => by rw [hG2]; simp only [updL, nbeq a1, nbeq a2, nbeq a3, nbeq a4, cond_false]
  have f1 : G2 1 = .live (.rowA 48 5 l.length none (pcs (fun i => if i = J then 66 else i + 1100) 0 l')) := by rw [hG2]; rfl
  have f0 : G2 0 = D0 key port := (ne 0 qE qE qE qp).trans e0
  have fF : ∀ q ∈ fams (fun i => if i = J then 66 else i + 1100) 0 l', G2 q.1 = q.2 := fun q hq => by
   obtain ⟨i, hi, rfl⟩ := zcE.1 hq
   rw [hll] at hi
   show G2 (if 0 + i = J then 66 else 0 + i + 1100) = nrow _
   rw [Nat.zero_add]
   by_cases hiJ : i = J
   ·subst hiJ
    rw [if_pos rfl, hG2]
    simp only [← hl', List.getElem_set_self]
    unfold nrow
    dsimp only
    rw [hNl]
    rfl
   ·rw [if_neg hiJ, ne _ (by omega) (by omega) (by omega) (by omega), eD i hi hi]
    simp only [← hl', List.getElem_set_ne (Ne.symm hiJ)]
    rw [dnL_at n l i hi]
  have fr : ∀ o, o ∉ mvN l.length → G2 o = heap o := fun o ho => (ne o (fun e => ho qac) (fun e => ho qac) (fun e => ho qac) (fun e => ho qac)).trans (er o ho)
  have ne2 : ∀ o, o ≠ 1 → o ≠ 66 → (∀ i, i < 6 → o ≠ i + 1100) → updL G2 ((1, qk 48 5 l.length (l'.flatMap PE.pv)) :: (fams (fun i => if i = J then 66 else i + 1100) 0 l').map fun p => (p.1, .dead)) o = G2 o := fun o a1 a3 a2 => zaz fun hm => by
   simp only [qbj, qbm, qbW, qbo] at hm
   rcases hm with hm | ⟨q, hq, hq1⟩
   ·exact a1 hm
   ·obtain ⟨i, hi, rfl⟩ := zcE.1 hq
    rw [hll] at hi
    change (if 0 + i = J then 66 else 0 + i + 1100) = o at hq1
    rw [Nat.zero_add] at hq1
    split at hq1
    ·exact a3 hq1.symm
    ·exact a2 i qp hq1.symm
  have hno : 1 ∉ (fams (fun i => if i = J then 66 else i + 1100) 0 l').map Prod.fst := fun hm => by
   obtain ⟨q, hq, hq1⟩ := qbo.1 hm
   obtain ⟨i, hi, rfl⟩ := zcE.1 hq
   dsimp only at hq1
   split at hq1 <;> omega
  rw [hl'] at hset ⊢
  have hE := mv_end (l := l) (l' := l') h7 ((ne2 0 qE qE (fun i _ => by omega)).trans f0) rfl (fun o ho => (ne2 o (fun e => ho qac) (fun e => ho qac) (fun i hi e => ho qac)).trans (fr o ho))
  have hF := mv_fin (P := prog) (rs := f133.results.toList) (res := qd 0) (key := key) (port := port) (l := l) (l' := l') h7 (heap := heap) (tm := zcV [(6, qd 0)]) (e := .ret) (.inr rfl) _ (fun H => .tmp _ _ _ _ rfl .nil) rfl
  have hV := pcs_V (fun i => if i = J then 66 else i + 1100) l' 0
  have hLv := zeA (fun i => if i = J then 66 else i + 1100) l' 0
  clear eD eF eU er ne ne2 f0 fr hall7 hself hP eD' hll hl' hNl
  generalize (delN n l[J].nets).length = N at *
  generalize (delN n l[J].nets).flatMap ntC = NC at *
  generalize ns.flatMap ntC = NC2 at *
  generalize hCC : pcs (fun i => i + 1100) 0 (dnL n l) = CC at *
  generalize hCD : pcs (fun i => if i = J then 66 else i + 1100) 0 l' = CD at *
  generalize hFF : fams (fun i => if i = J then 66 else i + 1100) 0 l' = FF at *
  have hJ6 : J = 0 ∨ J = 1 ∨ J = 2 ∨ J = 3 ∨ J = 4 ∨ J = 5 := qp
  rcases hJ6 with rfl | rfl | rfl | rfl | rfl | rfl
  all_goals
   (repeat (first | refine zal ?_ | refine zaw ?_ | refine zaE ?_ | refine zaA ?_ | refine zaJ ?_ | refine zaH ?_ | refine zbA ?_ | refine zbK ?_ | refine zcq ?_ | refine zcl ?_ | refine zb8 ?_ | refine zdr rfl ?_))
   refine G [4] ?_
   refine zab (zbw U46 rfl hatJ) rfl rfl ⟨e1, trivial⟩ ?_
   refine jfb (zas U82 rfl sz82 (qbe rfl) (rfl)) ?_
   refine zbG (fun n => 55 + 1000 * n) (hB) rfl (by show [zgc (GV _), _, _] = _; rw [eJ]; rfl) func171 rfl rfl qK qK rfl rfl rfl qq rfl rfl rfl ?_
   refine G [6] ?_
   (repeat (first | refine zal ?_ | refine zaw ?_ | refine zaE ?_ | refine zaA ?_ | refine zaJ ?_ | refine zaH ?_ | refine zbA ?_ | refine zbK ?_ | refine zcq ?_ | refine zcl ?_ | refine zb8 ?_ | refine zdr rfl ?_))
   refine G [5] ?_
   refine zab (zbw U46 rfl hatJ) rfl rfl ⟨e1, trivial⟩ ?_
   refine mP rfl rfl ?_
   refine jfb (zas U82 rfl sz82 (qbe rfl) (rfl)) ?_
   refine zab (zed 65 U46 sz82 zc82 (qbe rfl) (qbe rfl) rfl rfl (qbe rfl)) rfl rfl ⟨e65, trivial⟩ ?_
   refine zab (a_callR2 (o' := 66) (n := N) (n' := N + 1) (ps := NC) (qs := NC2) func172 rfl rfl rfl rfl qE hI) rfl rfl ⟨eJ, e66, rfl, trivial⟩ ?_
   refine G [2] ?_
   refine zab (zcx (Y := .row 66) (cs := CC) sz46 rfl rfl qa1 hset) rfl rfl ⟨e1, trivial⟩ ?_
   refine zaf ⟨qr, ?_⟩
   (repeat (first | refine zal ?_ | refine zaw ?_ | refine zaE ?_ | refine zaA ?_ | refine zaJ ?_ | refine zaH ?_ | refine zbA ?_ | refine zbK ?_ | refine zcq ?_ | refine zcl ?_ | refine zb8 ?_ | refine zdr rfl ?_))
   refine G [3] ?_
   refine za7 (zdM [(6, qd 0)] G2 ⟨rfl, trivial⟩ (fun o => .inl (by rw [hG2]; rfl))) ?_
   refine zaX (zd1 (o := 1) hV fF hLv f1 hno) ?_
   refine zaX (zdM [(6, qd 0)] (updL heap (mvW key port l l')) ⟨rfl, trivial⟩ hE) ?_
   (repeat (first | refine zal ?_ | refine zaw ?_ | refine zaE ?_ | refine zaA ?_ | refine zaJ ?_ | refine zaH ?_ | refine zbA ?_ | refine zbK ?_ | refine zcq ?_ | refine zcl ?_ | refine zb8 ?_ | refine zdr rfl ?_))
   exact hF
theorem bl_irrefl : ∀ x : List UInt8, Op.bytesLess x x = false
 | [] => rfl
 | a :: x => by simp [Op.bytesLess, bl_irrefl x]
theorem bl_trans : ∀ x y z : List UInt8, Op.bytesLess x y = true → Op.bytesLess y z = true → Op.bytesLess x z = true
 | [], y, [], h1, h2 => by cases y <;> simp [Op.bytesLess] at h2
 | [], y, c :: z, h1, h2 => rfl
 | a :: x, [], z, h1, h2 => by simp [Op.bytesLess] at h1
 | a :: x, b :: y, [], h1, h2 => by simp [Op.bytesLess] at h2
 | a :: x, b :: y, c :: z, h1, h2 => by
  simp only [Op.bytesLess, Bool.or_eq_true, decide_eq_true_eq, qbv, beq_iff_eq] at h1 h2 ⊢
  rcases h1 with h1 | ⟨rfl, h1⟩ <;> rcases h2 with h2 | ⟨rfl, h2⟩
  ·exact .inl (UInt8.lt_trans h1 h2)
  ·exact .inl h1
  ·exact .inl h2
  ·exact .inr ⟨rfl, bl_trans x y z h1 h2⟩
theorem bl_total : ∀ x y : List UInt8, Op.bytesLess x y = false → Op.bytesLess y x = false → x = y
 | [], [], _, _ => rfl
 | [], b :: y, h1, _ => by simp [Op.bytesLess] at h1
 | a :: x, [], _, h2 => by simp [Op.bytesLess] at h2
 | a :: x, b :: y, h1, h2 => by
  simp only [Op.bytesLess, qcg, decide_eq_false_iff_not, qcr, beq_eq_false_iff_ne] at h1 h2
  have hab : a = b := UInt8.le_antisymm (UInt8.not_lt.1 h2.1) (UInt8.not_lt.1 h1.1)
  subst hab
  have h3 := h1.2.resolve_left (fun h => h rfl)
  have h4 := h2.2.resolve_left (fun h => h rfl)
  rw [bl_total x y h3 h4]
theorem zie (a : ByteArray) : sLt a a = false := bl_irrefl _
theorem zfz {a b c : ByteArray} (h1 : sLt a b = true) (h2 : sLt b c = true) : sLt a c = true := bl_trans _ _ _ h1 h2
theorem sLt_total {a b : ByteArray} (h1 : sLt a b = false) (h2 : sLt b a = false) : a = b := by
 have := bl_total _ _ h1 h2
 rw [ByteArray.toList_eq, ByteArray.toList_eq] at this
 exact ByteArray.ext (Array.toList_inj.1 this)
def Srt {α : Type} (lt : α → α → Prop) (l : List α) : Prop := ∀ i j, (h : i < j) → (hj : j < l.length) → lt (l[i]'qp) l[j]
theorem srt_of {α : Type} {lt : α → α → Prop} (ht : ∀ a b c, lt a b → lt b c → lt a c) {l : List α} (h : ∀ i, (hi : i + 1 < l.length) → lt (l[i]'qp) l[i + 1]) : Srt lt l := by
 intro i j hij hj
 induction j with
 | zero => omega
 | succ j ih =>
  by_cases e : i = j
  ·subst e; exact h i hj
  ·exact ht _ _ _ (ih qp qp) (h j hj)
theorem srt_filter {α : Type} {lt : α → α → Prop} (q : α → Bool) : ∀ {l : List α}, Srt lt l → Srt lt (l.filter q) := by
 intro l h
 have hp : l.Pairwise lt := List.pairwise_iff_getElem.2 fun i j hi hj hij => h i j hij hj
 have hp2 : (l.filter q).Pairwise lt := hp.sublist List.filter_sublist
 intro i j hij hj
 exact List.pairwise_iff_getElem.1 hp2 i j qp hj hij
def posL {α : Type} (lt : α → Bool) (l : List α) : Nat := l.findIdx fun x => !lt x
theorem zgj {α : Type} (lt : α → Bool) (l : List α) : posL lt l ≤ l.length := List.findIdx_le_length
theorem ziR {α : Type} {lt : α → Bool} {l : List α} (u : Nat) (h : u < posL lt l) (hu : u < l.length) : lt l[u] = true := by
 have := List.not_of_lt_findIdx (p := fun x => !lt x) (xs := l) h
 simpa using this
theorem posL_hi {α : Type} {lt : α → Bool} {l : List α} (hm : ∀ i j, (h : i < j) → (hj : j < l.length) → lt l[j] = true → lt (l[i]'qp) = true) (u : Nat) (h : posL lt l ≤ u) (hu : u < l.length) : lt l[u] = false := by
 have hp : posL lt l < l.length := qp
 have h1 : (!lt (l[posL lt l]'hp)) = true := List.findIdx_getElem (p := fun x => !lt x) (xs := l) (w := hp)
 rcases hc : lt l[u] with _ | _
 ·rfl
 ·exfalso
  have h2 : lt (l[posL lt l]'hp) = true := by
   rcases qcl (posL lt l) u with h3 | h3
   ·exact hm _ _ h3 hu hc
   ·have e : posL lt l = u := qp
    simp only [e]; exact hc
  rw [h2] at h1; cases h1
theorem bk_char {α : Type} {g : α → Bool} {l : List α} {p : Nat} (hlo : ∀ u, u < p → (hu : u < l.length) → g l[u] = false) (hhi : ∀ u, p ≤ u → (hu : u < l.length) → g l[u] = true) : ∀ k, p ≤ k → k ≤ l.length → bk g l k = p
 | 0, h, _ => by
  have : p = 0 := qp
  rw [this]; rfl
 | k + 1, h, hk => by
  have hx : l[k]? = some (l[k]'qp) := List.getElem?_eq_getElem qp
  by_cases e : p = k + 1
  ·rw [bk_no hx (hlo k (by omega) (by omega)), e]
  ·rw [bk_yes hx (hhi k (by omega) (by omega)), bk_char hlo hhi k (by omega) (by omega)]
theorem insE_at {α : Type} {gt : α → α → Bool} {l : List α} {x : α} {p : Nat} (hp : p ≤ l.length) (hlo : ∀ u, u < p → (hu : u < l.length) → gt l[u] x = false) (hhi : ∀ u, p ≤ u → (hu : u < l.length) → gt l[u] x = true) : insE gt l x = l.take p ++ x :: l.drop p := by
 unfold insE
 rw [bk_char hlo hhi l.length hp (Nat.le_refl _)]
theorem sortE_id {α : Type} {gt : α → α → Bool} {l : List α} (h : ∀ i j, (h : i < j) → (hj : j < l.length) → gt (l[i]'qp) l[j] = false) : ∀ i, i ≤ l.length → zcK gt (l.take i) = l.take i
 | 0, _ => rfl
 | i + 1, hi => by
  have hx : l[i]? = some (l[i]'qp) := List.getElem?_eq_getElem qp
  rw [zf9 gt l i _ hx, sortE_id h i (by omega), insE_at (p := i) (by rw [List.length_take]; omega) (fun u hu hl => by rw [qcJ]; exact h u i hu (by omega)) (fun u hu hl => by rw [List.length_take] at hl; omega)]
  rw [qbr (by rw [List.length_take]; omega), qbS (by rw [List.length_take]; omega), ← qbn (by omega)]
theorem sortE_put {α : Type} {gt : α → α → Bool} {l : List α} {x : α} {p : Nat} (h : ∀ i j, (h : i < j) → (hj : j < l.length) → gt (l[i]'qp) l[j] = false) (hp : p ≤ l.length) (hlo : ∀ u, u < p → (hu : u < l.length) → gt l[u] x = false) (hhi : ∀ u, p ≤ u → (hu : u < l.length) → gt l[u] x = true) : zcK gt (l ++ [x]) = l.take p ++ x :: l.drop p := by
 have h1 := sortE_id h l.length (Nat.le_refl _)
 rw [qbI] at h1
 have h2 : zcK gt (l ++ [x]) = insE gt (zcK gt l) x := by
  unfold zcK
  rw [qco]
  rfl
 rw [h2, h1, insE_at hp hlo hhi]
theorem ord3_lt {a b : Int} : ord3 a b < 0 ↔ a < b := by unfold ord3; split <;> (try split) <;> omega
theorem ord3_gt {a b : Int} : 0 < ord3 a b ↔ b < a := by unfold ord3; split <;> (try split) <;> omega
def nLt (m n : NtP) : Prop := zbI m.1 m.2 n.1 n.2 < 0
theorem zhz {m n : NtP} : nLt m n ↔ m.1 < n.1 ∨ (m.1 = n.1 ∧ m.2 < n.2) := by
 unfold nLt zbI
 split
 ·rename_i h; rw [ord3_lt]; constructor
  ·intro h2; exact .inr ⟨h, h2⟩
  ·rintro (h2 | h2)
   ·omega
   ·exact h2.2
 ·rename_i h; rw [ord3_lt]; constructor
  ·intro h2; exact .inl h2
  ·rintro (h2 | h2)
   ·exact h2
   ·exact absurd h2.1 h
theorem nGt_iff {m n : NtP} : 0 < zbI m.1 m.2 n.1 n.2 ↔ nLt n m := by
 rw [zhz]
 unfold zbI
 split
 ·rename_i h; rw [ord3_gt]; constructor
  ·intro h2; exact .inr ⟨h.symm, h2⟩
  ·rintro (h2 | h2)
   ·omega
   ·exact h2.2
 ·rename_i h; rw [ord3_gt]; constructor
  ·intro h2; exact .inl h2
  ·rintro (h2 | h2)
   ·exact h2
   ·exact absurd h2.1.symm h
theorem nLt_trans (a b c : NtP) (h1 : nLt a b) (h2 : nLt b c) : nLt a c := by
 rw [zhz] at *
 omega
theorem nLt_total {m n : NtP} (h1 : ¬ nLt m n) (h2 : ¬ nLt n m) : m = n := by
 rw [zhz] at h1 h2
 exact Prod.ext qp qp
theorem fnz_all {f : Nat → Int} : ∀ {n : Nat}, fnz f n = 0 → ∀ j, j < n → f j = 0
 | n + 1, h, j, hj => by
  have h1 : fnz f n = 0 := by
   by_cases e : fnz f n = 0
   ·exact e
   ·simp [fnz, e] at h
  have h2 : f n = 0 := by simpa [fnz, h1] using h
  by_cases e : j = n
  ·subst e; exact h2
  ·exact fnz_all h1 j qp
theorem zhU {c : CF} (h : cfE c = 0) : c.ps.length ≤ 6 ∧ (∀ i, (hi : i < c.ps.length) → peE c.ps[i] = 0) ∧ ∀ i, (hi : i + 1 < c.ps.length) → sLt (c.ps[i]'qp).key c.ps[i + 1].key = true := by
 unfold cfE at h
 split at h
 ·rename_i h1; exact absurd h h1.2
 split at h
 ·cases h
 split at h
 ·cases h
 rename_i h6
 have hall := fnz_all h
 have hat : ∀ i, (hi : i < c.ps.length) → peG c.ps i = c.ps[i] := fun i hi => zch (List.getElem?_eq_getElem hi)
 refine ⟨qp, fun i hi => ?_, fun i hi => ?_⟩
 ·have := hall i hi
  unfold zdV at this
  rw [hat i hi] at this
  by_cases e : peE c.ps[i] = 0
  ·exact e
  ·rw [if_pos e] at this; exact absurd this e
 ·have := hall (i + 1) hi
  unfold zdV at this
  rw [hat (i + 1) hi, Nat.add_sub_cancel, hat i (by omega)] at this
  by_cases e : peE c.ps[i + 1] = 0
  ·rw [if_neg (fun h => h e)] at this
   by_cases e2 : (0 < i + 1 ∧ leK c.ps[i + 1].key (c.ps[i]'qp).key = true) ∨ c.ps[i + 1].key = c.key
   ·rw [if_pos e2] at this; cases this
   ·have h3 : leK c.ps[i + 1].key (c.ps[i]'qp).key = false := by
     rcases hl : leK c.ps[i + 1].key (c.ps[i]'qp).key with _ | _
     ·rfl
     ·exact absurd (.inl ⟨qp, hl⟩) e2
    unfold leK at h3
    rw [qcg, decide_eq_false_iff_not] at h3
    rcases h4 : sLt (c.ps[i]'qp).key c.ps[i + 1].key with _ | _
    ·exact absurd (sLt_total h3.1 h4) h3.2
    ·rfl
  ·rw [if_pos e] at this; exact absurd this e
theorem zfF {p : PE} (h : peE p = 0) : p.nets.length ≤ 8 ∧ ∀ i, (hi : i + 1 < p.nets.length) → nLt (p.nets[i]'qp) p.nets[i + 1] := by
 refine ⟨(zcU h).1, fun i hi => ?_⟩
 unfold peE at h
 split at h
 ·exact jdg
 split at h
 ·rename_i h1; exact absurd h h1.2
 split at h
 ·cases h
 split at h
 ·rename_i h1; exact absurd h h1.2
 split at h
 ·cases h
 split at h
 ·cases h
 have := fnz_all h (i + 1) hi
 unfold zcG at this
 have hat : ∀ j, (hj : j < p.nets.length) → ntG p.nets j = p.nets[j] := fun j hj => by unfold ntG; rw [List.getD_eq_getElem?_getD, List.getElem?_eq_getElem hj]; rfl
 rw [hat (i + 1) hi, Nat.add_sub_cancel, hat i (by omega)] at this
 split at this
 ·rename_i h1; exact absurd this h1
 split at this
 ·cases this
 ·rename_i h1
  unfold nLt
  have : ¬ (0 ≤ zbI (p.nets[i]'qp).1 (p.nets[i]'qp).2 p.nets[i + 1].1 p.nets[i + 1].2) := fun h2 => h1 ⟨qp, h2⟩
  omega
section
variable {P : Program} {ops : Array Oper} {K : List Foot → St → Prop} {l : List Oper} {fs : List Foot} {st : St} {d : Option Tmp} {ty : TypeId} {pos : String} {af : Array Edge} {gd : Option (Nat × Bool)}
theorem r_callO1 {x : Operand} {args : Array Operand} {ts : Array TypeId} {f : FuncId} {fn : Func} {zs cs : List AV} {res : AV} {rds wrs : List (Nat × Slot)} {F1 F2 : List Nat} (hC : FnO P f zs rds wrs res) (hx : st.ev x = .fn f cs) (hxs : args.toList.map st.ev ++ cs = zs) (hf : P.funcs[f]? = some fn) (hb : fn.body.isNone = false) (hn : (fn.name == "runtime.NumGoroutine") = false)
 (hrd : Rds st rds) (hg : zau ops ⟨d, .call { callee := .value x, args := args, argTypes := ts }, ty, pos, af, gd⟩ st = some true) (h1 : rds.map Prod.fst = F1) (h2 : wrs.map Prod.fst = F2)
 (k : ARun P ops K l (fs ++ [(F1, F2)]) ((st.upd wrs).put d res)) :
 ARun P ops K (⟨d, .call { callee := .value x, args := args, argTypes := ts }, ty, pos, af, gd⟩ :: l) fs st := by
 subst h1 h2
 exact zaL hC hx hxs hf hb hn hrd hg k
end
def sA (k : Int) (t : ByteArray) (n a b : Int) : List AV := [qd k, qc t, qd n, qe a, qd b]
def oN (pt t : ByteArray) (n a b : Int) : List (Nat × Slot) := [(3, qj 107 (sA 10 t n a b)), (4, qj 9 [qc pt]), (5, qj 107 (sA 10 t n a b))]
theorem mvN_nd3 : ∀ n, n < 7 → (0 :: 1 :: (List.range n).map fun i => 0 + i + 1000).Nodup := qE
theorem mvN_nd4 : ∀ n, n < 7 → (3 :: 4 :: 5 :: mvN n).Nodup := qE
theorem one10_s (key : ByteArray) (port : Int) (l : List PE) (ok : CF.OK ⟨key, port, l⟩) (pt t : ByteArray) (n a b : Int) (hpt : pt ≠ ⟨#[]⟩) (hJ : peN pt l < l.length) (h6 : l.length ≤ 6) (r : Int) (l' : List PE)
 (hM : FnO prog 133 [.ref 0 0, qc pt, .agg ((ntC (a, b)).map AV.p)] (mvR key port l) (mvW key port l l') (qd r)) :
 FnO prog 93 [.ref 0 0, qc pt, .agg (sA 10 t n a b)] ((3, .un) :: (4, .un) :: (5, .un) :: mvR key port l) (oN pt t n a b ++ mvW key port l l') (.tup [qc pt, qd r]) := by
 have h7 : l.length < 7 := qp
 have hnd : (((3, Slot.un) :: (4, .un) :: (5, .un) :: mvR key port l).map Prod.fst).Nodup := by rw [qbj, qbj, qbj, zgo]; exact mvN_nd4 _ h7
 have hG := zhN 10 t n a b qE qE qE
 have hP := peerT_s key port l ok pt _ _ (pcs_V (fun i => i + 1000) l 0) (zeA _ _ _) (by rw [zfX]; exact mvN_nd3 _ h7) hpt hJ
 show FnO prog 93 [.ref 0 0, qc pt, .agg [qd 10, qc t, qd n, qe a, qd b]] _ _ _
 refine fnIO fun w0 A heap => ?_
 have hall := zb0 (h := heap) hnd
 have er : ∀ o, o ∉ mvN l.length → o ≠ 3 → o ≠ 4 → o ≠ 5 → updL heap ((3, .un) :: (4, .un) :: (5, .un) :: mvR key port l) o = heap o := fun o ho a1 a2 a3 => zaz (by
  rw [qbj, qbj, qbj, zgo]
  simp only [qbm, not_or]
  exact ⟨a1, a2, a3, ho⟩)
 obtain ⟨H, hH⟩ : ∃ H, updL heap ((3, .un) :: (4, .un) :: (5, .un) :: mvR key port l) = H := ⟨_, rfl⟩
 rw [hH] at hall er ⊢
 have e3 : H 3 = .un := hall (3, .un) qC
 have e4 : H 4 = .un := hall (4, .un) qC
 have e5 : H 5 = .un := hall (5, .un) qC
 have eM : ∀ p ∈ mvR key port l, H p.1 = p.2 := fun p hp => hall p qaX
 clear hH hnd hall
 refine G [2] ?_
 refine zab (a_box (X := .p _) 4 rfl) rfl rfl ⟨e4, trivial⟩ ?_
 refine zab (a_box (X := .agg _) 5 rfl) rfl rfl ⟨e5, trivial⟩ ?_
 refine G [8] ?_
 refine zaL hG rfl rfl F128 rfl rfl ⟨e3, trivial⟩ rfl ?_
 refine G [6] ?_
 obtain ⟨GV, hGd⟩ : ∃ GV : Nat → Slot, GV = updL (updL (updL H [(4, qj 9 [qc pt])]) [(5, qj 107 (sA 10 t n a b))]) [(3, qj 107 (sA 10 t n a b))] := ⟨_, rfl⟩
 have g3 : GV 3 = qj 107 (sA 10 t n a b) := by rw [hGd]; rfl
 have g4 : GV 4 = qj 9 [qc pt] := by rw [hGd]; rfl
 have g5 : GV 5 = qj 107 (sA 10 t n a b) := by rw [hGd]; rfl
 have ne : ∀ o, o ≠ 3 → o ≠ 4 → o ≠ 5 → GV o = H o := fun o a1 a2 a3 => by rw [hGd]; simp only [updL, nbeq a1, nbeq a2, nbeq a3, cond_false]
 have gM : ∀ p ∈ mvR key port l, GV p.1 = p.2 := fun p hp => by
  have hm : p.1 ∈ mvN l.length := by rw [← zgo key port l]; exact qbo.2 ⟨p, hp, rfl⟩
  rw [zb5] at hm
  exact (ne p.1 qp qp qp).trans (eM p hp)
 have gr : ∀ o, o ∉ mvN l.length → o ≠ 3 → o ≠ 4 → o ≠ 5 → GV o = heap o := fun o ho a1 a2 a3 => (ne o a1 a2 a3).trans (er o ho a1 a2 a3)
 refine za7 (zdM [(0, .ref 0 0), (4, .ref 4 0), (5, .ref 5 0), (8, qf false), (9, qd 0)] GV qL (fun o => .inl (by rw [hGd]; rfl))) ?_
 clear eM e3 e4 e5 er ne
 unfold sA at g5
 have hall7 : ∀ p ∈ (0, D0 key port) :: (1, Slot.live (.rowA 48 5 l.length none (pcs (fun i => i + 1000) 0 l))) :: fams (fun i => i + 1000) 0 l, GV p.1 = p.2 := fun p hp => gM p (by
  unfold mvR
  rcases qbm.1 hp with rfl | hp
  ·simp
  rcases qbm.1 hp with rfl | hp
  ·simp
  ·simp [hp])
 have hself := zeh hall7
 refine G [10] ?_
 refine zab (zbr U3 rfl rfl) rfl rfl ⟨g5, trivial⟩ ?_
 (first | refine zaa zbH rfl rfl ?_ | refine zaa za4 rfl rfl ?_)
 refine G [6] ?_
 refine zab (zbr U9 rfl rfl) rfl rfl ⟨g4, trivial⟩ ?_
 refine zaL hP rfl rfl F130 rfl rfl (zdd hall7) rfl ?_
 refine G [6] ?_
 refine za7 (zdM [(0, .ref 0 0), (4, .ref 4 0), (5, .ref 5 0), (10, .ref 1 (peN pt l * 5)), (11, qd 0)] GV qL (fun o => .inl (congrFun hself o))) ?_
 refine jdt ?_
 refine G [10] ?_
 refine zab (zbr U3 rfl rfl) rfl rfl ⟨g5, trivial⟩ ?_
 refine G [4] ?_
 (first | refine zaa zbH rfl rfl ?_ | refine zaa za4 rfl rfl ?_)
 refine G [5] ?_
 (first | refine zaa zbH rfl rfl ?_ | refine zaa za4 rfl rfl ?_)
 refine G [5] ?_
 (first | refine zaa zbH rfl rfl ?_ | refine zaa za4 rfl rfl ?_)
 refine G [5] ?_
 (first | refine zaa zbH rfl rfl ?_ | refine zaa za4 rfl rfl ?_)
 refine G [5] ?_
 (first | refine zaa zbH rfl rfl ?_ | refine zaa za4 rfl rfl ?_)
 refine G [5, 1, 3] ?_
 have hf1 := zgo key port l
 have hf2 := zfe key port l l'
 have hndW : ((mvW key port l l').map Prod.fst).Nodup := qa0
 have hrest : ∀ o, ((oN pt t n a b ++ mvW key port l l').any fun p => Nat.beq o p.1) = false → updL GV (mvW key port l l') o = heap o := fun o ho => by
  rw [List.any_append, qcg] at ho
  have h1 : o ∉ mvN l.length := fun hm => by
   rw [← hf2] at hm
   obtain ⟨p, hp, rfl⟩ := qbo.1 hm
   have := List.any_eq_false.1 ho.2 p hp
   simp at this
  have h2 := ho.1
  simp only [oN, List.any_cons, List.any_nil, Bool.or_false, qcg] at h2
  rw [zaz (by rw [hf2]; exact h1)]
  exact gr o h1 (fun e => by subst e; simp at h2) (fun e => by subst e; simp at h2) (fun e => by subst e; simp at h2)
 have hrds : ∀ p ∈ oN pt t n a b ++ mvW key port l l', updL GV (mvW key port l l') p.1 = p.2 := fun p hp => by
  rcases qbz.1 hp with hp | hp
  ·have hno : ∀ o, o = 3 ∨ o = 4 ∨ o = 5 → updL GV (mvW key port l l') o = GV o := fun o ho => zaz (by rw [hf2, zb5]; omega)
   simp only [oN, qbm, qb4, or_false] at hp
   rcases hp with rfl | rfl | rfl
   ·exact (hno 3 qp).trans g3
   ·exact (hno 4 qp).trans g4
   ·exact (hno 5 qp).trans g5
  ·exact zb0 hndW p hp
 clear hall7 hself gr hP hndW
 obtain ⟨N, hN⟩ : ∃ N, l.length = N := ⟨_, rfl⟩
 rw [hN] at hf1 hf2 h6
 have hN6 : N = 0 ∨ N = 1 ∨ N = 2 ∨ N = 3 ∨ N = 4 ∨ N = 5 ∨ N = 6 := qp
 rcases hN6 with rfl | rfl | rfl | rfl | rfl | rfl | rfl
 all_goals
  (repeat (first | refine zal ?_ | refine zaw ?_ | refine zaE ?_ | refine zaA ?_ | refine zaJ ?_ | refine zaH ?_ | refine zbA ?_ | refine zbK ?_ | refine zcq ?_ | refine zcl ?_ | refine zb8 ?_ | refine zdr rfl ?_))
  refine zf1 4 qr ?_
  refine zab (zbr U9 rfl rfl) rfl rfl ⟨g4, trivial⟩ ?_
  refine jfb (zaF (r := .ref _ _)) ?_
  refine zab (zbr U9 rfl rfl) rfl rfl ⟨g4, trivial⟩ ?_
  refine fA fi107_3 rfl rfl ?_
  refine zab (zao (es := (ntC (a, b)).map AV.p) U82 rfl sz82 (qbe rfl) rfl) rfl rfl ⟨g5, trivial⟩ ?_
  refine r_callO1 hM rfl rfl func133 rfl rfl (zdd gM) rfl hf1 hf2 ?_
  refine G [3] ?_
  (repeat (first | refine zal ?_ | refine zaw ?_ | refine zaE ?_ | refine zaA ?_ | refine zaJ ?_ | refine zaH ?_ | refine zbA ?_ | refine zbK ?_ | refine zcq ?_ | refine zcl ?_ | refine zb8 ?_ | refine zdr rfl ?_))
  refine ⟨qO, ⟨_, (.tmp _ _ _ _ rfl (.tmp _ _ _ _ rfl .nil)), ?_⟩, ?_, ?_⟩
  ·exact rfl
  ·exact zdd hrds
  ·exact hrest
def nrO (p : PE) : AObj := .row 82 2 p.nets.length (p.nets.flatMap ntC)
def zba : Nat → List PE → List (Nat × AObj)
 | _, [] => []
 | k, p :: l => (k + 1000, nrO p) :: zba (k + 1) l
theorem zct : ∀ {l : List PE} {k : Nat} {q : Nat × AObj}, q ∈ zba k l ↔ ∃ i, ∃ h : i < l.length, q = (k + i + 1000, nrO l[i])
 | [], k, q => by simp [zba]
 | p :: l, k, q => by
  rw [zba, qbm, zct (l := l)]
  constructor
  ·rintro (rfl | ⟨i, h, rfl⟩)
   ·exact ⟨0, qC, qC⟩
   ·exact ⟨i + 1, by simpa using h, by simp; omega⟩
  ·rintro ⟨i, h, rfl⟩
   cases i with
   | zero => exact .inl qC
   | succ i => exact .inr ⟨i, by simpa using h, by simp; omega⟩
theorem zdl : ∀ (l : List PE) (k : Nat), (zba k l).map Prod.fst = (List.range l.length).map fun i => k + i + 1000
 | [], k => rfl
 | p :: l, k => by
  rw [zba, qbj, zdl l (k + 1), qbs, List.range_succ_eq_map, qbj, qbW]
  congr 1
  apply qcb
  intro i _
  show k + 1 + i + 1000 = k + (i + 1) + 1000
  omega
theorem famsO_app : ∀ (l m : List PE) (k : Nat), zba k (l ++ m) = zba k l ++ zba (k + l.length) m
 | [], m, k => rfl
 | p :: l, m, k => by
  rw [qbG, zba, zba, famsO_app l m (k + 1), qbG, qbs]
  congr 3
  omega
theorem zhC {l : List PE} {k o : Nat} (h : o < 1000) : zaR (zba k l) o = .un := by
 cases hs : zaR (zba k l) o with
 | un => rfl
 | live ob =>
  obtain ⟨i, hi, e⟩ := zct.1 (za6 hs)
  simp only [Prod.mk.injEq] at e
  omega
 | dead =>
  exfalso
  have : ∀ L : List (Nat × AObj), zaR L o ≠ .dead := by
   intro L
   induction L with
   | nil => intro h; cases h
   | cons p L ih =>
    obtain ⟨a, b⟩ := p
    by_cases e : o = a
    ·subst e; simp [zaR]
    ·simp only [zaR, nbeq e, cond_false]; exact ih
  exact this _ hs
theorem zg8 {l : List PE} {k i : Nat} (h : i < l.length) : zaR (zba k l) (k + i + 1000) = .live (nrO l[i]) := by
 induction l generalizing k i with
 | nil => simp at h
 | cons p l ih =>
  rw [zba]
  cases i with
  | zero => simp [zaR]
  | succ i =>
   have hne : k + (i + 1) + 1000 ≠ k + 1000 := qp
   simp only [zaR, nbeq hne, cond_false]
   have := ih (k := k + 1) (i := i) qz
   rw [show k + 1 + i + 1000 = k + (i + 1) + 1000 by omega] at this
   simpa using this
theorem leO_of {ρ : Nat → Nat} {st : St} {K : List Nat} : ∀ {L : List (Nat × AObj)}, (∀ p ∈ L, st.heap (ρ p.1) = .live (p.2.ren ρ) ∧ p.2.okIn K = true) → LeO ρ st K L
 | [], _ => trivial
 | p :: L, h => ⟨h p qC, leO_of fun q hq => h q (by simp [hq])⟩
theorem zco : ∀ {l : List Nat}, l.Nodup → zbj l = true
 | [], _ => rfl
 | x :: l, h => by
  rw [List.nodup_cons] at h
  simp only [zbj, qbv, qcn, List.elem_eq_mem, decide_eq_false_iff_not]
  exact ⟨h.1, zco h.2⟩
theorem zfG {K : List Nat} : ∀ (l : List PE) (k : Nat), (∀ i, i < l.length → k + i + 1000 ∈ K) → AV.okInL K (pcs (fun i => i + 1000) k l) = true
 | [], k, _ => rfl
 | p :: l, k, h => by
  have h0 := h 0 qC
  rw [qb0] at h0
  have ih := zfG (K := K) l (k + 1) fun i hi => by
   have := h (i + 1) qX
   rwa [show k + (i + 1) + 1000 = k + 1 + i + 1000 by omega] at this
  rw [pcs]
  simp only [pcA, qbG, qbK, AV.okInL, AV.okIn, Bool.true_and, ih, Bool.and_true, List.elem_eq_mem, decide_eq_true_eq]
  exact h0
theorem ze8 {ρ : Nat → Nat} {nm : Nat → Nat} : ∀ (l : List PE) (k : Nat), AV.renL ρ (pcs nm k l) = pcs (fun i => ρ (nm i)) k l
 | [], k => rfl
 | p :: l, k => by
  rw [pcs, pcs]
  simp only [pcA, qbG, qbK, AV.renL, AV.ren]
  rw [ze8 l (k + 1)]
theorem cpN_nd2 : ∀ i, i < 7 → (1 :: 2 :: 24 :: ((List.range i).map (fun j => j + 1000) ++ [19])).Nodup := qE
theorem cpN_nd3 : ∀ i, i < 7 → (100 :: (List.range i).map (fun j => j + 1000)).Nodup := qE
theorem cpN_nd : ∀ n, n < 7 → (0 :: (List.range n).map fun i => 0 + i + 1000).Nodup := qE
theorem cfCopyS_s (c : CF) (ok : c.OK) (h6 : c.ps.length ≤ 6) : Fn prog 40 [.agg c.cells] (.agg [.p (.v (.string c.key)), .p (.v (.int .i64 c.port)), .row 0]) ((0, .rowA 48 5 c.ps.length none (pcs (fun i => i + 1000) 0 c.ps)) :: zba 0 c.ps) := by
 obtain ⟨key, port, l⟩ := c
 obtain ⟨hn, ok⟩ := ok
 dsimp only at hn ok h6
 show Fn prog _ [.agg (cfC key port l.length (l.flatMap PE.pv))] (.agg [.p (.v (.string key)), .p (.v (.int .i64 port)), .row 0]) ((0, .rowA 48 5 l.length none (pcs (fun i => i + 1000) 0 l)) :: zba 0 l)
 refine fnI fun w0 A => ?_
 refine G [10] ?_
 refine zab (zh4 9 U22 eo48 qp qp qB) rfl rfl ⟨rfl, trivial⟩ ?_
 refine G [11] ?_
 refine zaX (zen 9 rfl) ?_
 refine zac (fun m st => ∃ i : Nat, m + i = l.length ∧ st = St.of [(1, .ref 1 0), (2, .ref 2 0), (3, .row 100), (11, ql l.length 5 (l.flatMap PE.pv)), (12, .p (.v (.int .i64 l.length))), (13, .p (.v (.int .i64 i)))] ((1, .box 24 (cfC key port l.length (l.flatMap PE.pv))) :: (2, .box 24 [.p (.v (.string ⟨#[]⟩)), .p (.v (.int .i64 0)), .p (.v (.slice none 0 0))]) :: (100, .rowA 48 5 i none (pcs (fun i => i + 1000) 0 (l.take i))) :: zba 0 (l.take i))) l.length ?_ ?_
 ·exact jc5
 rintro m st ⟨i, hi, rfl⟩
 refine G [5] ?_
 refine cX ?_ ?_ <;> intro h
 ·have hlt : i < l.length := qu
  clear h
  obtain ⟨p, hp⟩ := qo hlt
  have hch := zaj (f := PE.pv) (k := 5) (fun _ => rfl) hp
  have hle := zai (f := PE.pv) (k := 5) (fun _ => rfl) hlt
  have hpl := (ok p (qbh hp)).2
  have hC := nclone_s p.nets hpl
  have htk : l.take (i + 1) = l.take i ++ [p] := by
   obtain ⟨h1, h2⟩ := qbl.1 hp
   rw [qbn h1, h2]
  have htl : (l.take i).length = i := qN
  have hF : ∀ o, o < 1000 → zaR (zba 0 (l.take i)) o = .un := fun o ho => zhC ho
  have hFa : ∀ j, (h : j < i) → zaR (zba 0 (l.take i)) (j + 1000) = .live (nrO (l[j]'qp)) := fun j hj => by
   have := zg8 (l := l.take i) (k := 0) (i := j) qp
   rw [Nat.zero_add, qcJ] at this
   exact this
  have hPp : pcs (fun i => i + 1000) 0 (l.take (i + 1)) = pcs (fun i => i + 1000) 0 (l.take i) ++ pcA p (i + 1000) := by
   rw [htk, zhv, htl, Nat.zero_add]
   simp [pcs]
  have hPl : (pcs (fun i => i + 1000) 0 (l.take i)).length = i * 5 := by rw [zer, htl]
  have hPr : ∀ ρ : Nat → Nat, (∀ j, j < i → ρ (j + 1000) = j + 1000) → AV.renL ρ (pcs (fun i => i + 1000) 0 (l.take i)) = pcs (fun i => i + 1000) 0 (l.take i) := fun ρ hρ => by
   rw [ze8]
   exact zes _ _ fun j hj => by rw [Nat.zero_add]; exact hρ j qp
  have hFf : (zba 0 (l.take (i + 1))).map Prod.fst = (List.range (i + 1)).map fun j => 0 + j + 1000 := by rw [zdl, List.length_take, Nat.min_eq_left (by omega)]
  obtain ⟨FN, hFN⟩ : ∃ FN, zba 0 (l.take (i + 1)) = FN := ⟨_, rfl⟩
  have hFm : ∀ q ∈ FN, (∃ j, ∃ h : j < i, q = (j + 1000, nrO (l[j]'qp))) ∨ q = (i + 1000, nrO p) := fun q hq => by
   rw [← hFN, htk, famsO_app, htl, Nat.zero_add] at hq
   rcases qbz.1 hq with hq | hq
   ·obtain ⟨j, hj, rfl⟩ := zct.1 hq
    left
    refine ⟨j, qp, ?_⟩
    rw [Nat.zero_add, qcJ]
   ·right
    simpa [zba] using hq
  have hPo := zfG (K := 1 :: 2 :: 100 :: FN.map Prod.fst) (l.take (i + 1)) 0 (fun j hj => by
   rw [← hFN, hFf]
   rw [List.length_take] at hj
   simp only [qbm, qbo, qcF]
   exact .inr (.inr (.inr ⟨j, qp, rfl⟩)))
  rw [hPp] at hPo
  rw [hFN] at hFf
  generalize hL : l.flatMap PE.pv = L at *
  obtain ⟨pk, sh, ep, al, nn⟩ := p
  dsimp only at hC hpl
  obtain ⟨F, hFe⟩ : ∃ F, zba 0 (l.take i) = F := ⟨_, rfl⟩
  obtain ⟨C, hCe⟩ : ∃ C, pcs (fun i => i + 1000) 0 (l.take i) = C := ⟨_, rfl⟩
  rw [hFe] at hF hFa ⊢
  rw [hCe] at hPp hPl hPr hPo ⊢
  refine G [7] ?_
  refine zab (zaW 5 zr48 rfl) rfl rfl ⟨hF 5 qE, trivial⟩ ?_
  refine jdG ?_
  refine G [5] ?_
  refine zay (fun _ => 19) hC rfl rfl func73 rfl rfl qw rfl rfl rfl ⟨hF 19 qE, trivial⟩ rfl rfl rfl ?_
  refine G [6] ?_
  refine zab (zed 23 U22 sz48 zc48 (qbe rfl) (qbe rfl) rfl rfl (qbe rfl)) rfl rfl ⟨hF 23 qE, trivial⟩ ?_
  refine zab (a_appendB (k := i + 1) (zs := C ++ pcA ⟨pk, sh, ep, al, nn⟩ 19) 24 U22 eo48 rfl rfl qB qp rfl rfl) rfl rfl ⟨rfl, hF 24 qE, rfl, trivial⟩ ?_
  refine jdI ?_
  obtain ⟨ρ, hρ⟩ : ∃ ρ : Nat → Nat, ρ = fun o => bif Nat.beq o 100 then 24 else bif Nat.beq o (i + 1000) then 19 else o := ⟨_, rfl⟩
  have hρa : ∀ o, o ≠ 100 → o ≠ i + 1000 → ρ o = o := fun o a1 a2 => by rw [hρ]; simp only [nbeq a1, nbeq a2, cond_false]
  have hρ1 : ρ 100 = 24 := by rw [hρ]; rfl
  have hρ2 : ρ (i + 1000) = 19 := by rw [hρ]; simp only [nbeq (show i + 1000 ≠ 100 by omega), qca, cond_false, cond_true]
  refine ⟨m - 1, qp, St.of [(1, .ref 1 0), (2, .ref 2 0), (3, .row 100), (11, ql l.length 5 L), (12, .p (.v (.int .i64 l.length))), (13, .p (.v (.int .i64 (i + 1 : Nat))))] ((1, .box 24 (cfC key port l.length L)) :: (2, .box 24 [.p (.v (.string ⟨#[]⟩)), .p (.v (.int .i64 0)), .p (.v (.slice none 0 0))]) :: (100, .rowA 48 5 (i + 1) none (C ++ pcA ⟨pk, sh, ep, al, nn⟩ (i + 1000))) :: FN), zae ρ _ _ ?_ ?_ ?_, i + 1, qp, by rw [← hPp, hFN]⟩
  ·refine ⟨⟨by show _ = AV.ref (ρ 1) 0; rw [hρa 1 (by decide) (by omega)]; rfl, rfl⟩, ⟨by show _ = AV.ref (ρ 2) 0; rw [hρa 2 (by decide) (by omega)]; rfl, rfl⟩, ⟨by show _ = AV.row (ρ 100); rw [hρ1]; rfl, rfl⟩, ⟨rfl, rfl⟩, ⟨rfl, rfl⟩, ⟨by first | rfl | (simp; done), rfl⟩, trivial⟩
  ·refine ⟨⟨?_, rfl⟩, ⟨?_, rfl⟩, ⟨?_, hPo⟩, leO_of fun q hq => ⟨?_, ?_⟩⟩
   ·show St.heap _ (ρ 1) = _
    rw [hρa 1 (by decide) (by omega)]; rfl
   ·show St.heap _ (ρ 2) = _
    rw [hρa 2 (by decide) (by omega)]; rfl
   ·show St.heap _ (ρ 100) = .live (.rowA _ 5 (i + 1) none (AV.renL ρ (C ++ pcA ⟨pk, sh, ep, al, nn⟩ (i + 1000))))
    have hra : ∀ (x y : List AV), AV.renL ρ (x ++ y) = AV.renL ρ x ++ AV.renL ρ y := by
     intro x y
     induction x with
     | nil => rfl
     | cons a x ih => simp only [qbG, AV.renL, ih]
    rw [hρ1, hra, hPr ρ (fun j hj => hρa _ (by omega) (by omega))]
    simp only [pcA, AV.renL, AV.ren, hρ2]
    rfl
   ·rcases hFm q hq with ⟨j, hj, rfl⟩ | rfl
    ·show St.heap _ (ρ (j + 1000)) = .live (nrO _)
     rw [hρa _ (by omega) (by omega), ← hFa j hj]
     show updL _ _ _ = _
     simp only [updL, nbeq (show j + 1000 ≠ 24 by omega), nbeq (show j + 1000 ≠ 9 by omega), nbeq (show j + 1000 ≠ 100 by omega), nbeq (show j + 1000 ≠ 23 by omega), nbeq (show j + 1000 ≠ 19 by omega), nbeq (show j + 1000 ≠ 5 by omega), cond_false]
     simp only [zbU, St.upd, za2, qbj, qcB, updL, St.of, zaR, nbeq (show j + 1000 ≠ 24 by omega), nbeq (show j + 1000 ≠ 1 by omega), nbeq (show j + 1000 ≠ 2 by omega), nbeq (show j + 1000 ≠ 100 by omega), nbeq (show j + 1000 ≠ 23 by omega), nbeq (show j + 1000 ≠ 19 by omega), nbeq (show j + 1000 ≠ 5 by omega), cond_false]
    ·show St.heap _ (ρ (i + 1000)) = _
     rw [hρ2]; rfl
   ·rcases hFm q hq with ⟨j, hj, rfl⟩ | rfl <;> rfl
  ·refine zco ?_
   have e : (FN.map fun p => ρ p.1) = ((List.range i).map fun j => j + 1000) ++ [19] := by
    have e1 : (FN.map fun p => ρ p.1) = (FN.map Prod.fst).map ρ := by rw [qbW]; rfl
    rw [e1, hFf, List.range_succ, qbF, qbF, qbW]
    congr 1
    ·refine qcb fun j hj => ?_
     rw [qcF] at hj
     show ρ (0 + j + 1000) = _
     rw [Nat.zero_add, hρa _ (by omega) (by omega)]
    ·show [ρ (0 + i + 1000)] = _
     rw [Nat.zero_add, hρ2]
   show (ρ 1 :: ρ 2 :: ρ 100 :: FN.map fun p => ρ p.1).Nodup
   rw [e, hρa 1 (by decide) (by omega), hρa 2 (by decide) (by omega), hρ1]
   exact cpN_nd2 i qp
 have hge : i = l.length := qu
 clear h
 subst hge
 rw [qbI]
 have hFa : ∀ j, (h : j < l.length) → zaR (zba 0 l) (j + 1000) = .live (nrO l[j]) := fun j hj => by
  exact jcV
 have hPo := zfG (K := 0 :: (zba 0 l).map Prod.fst) l 0 (fun j hj => by
  rw [zdl]
  simp only [qbm, qbo, qcF]
  exact .inr ⟨j, qp, rfl⟩)
 have hFf := zdl l 0
 have hFm := fun q => @zct l 0 q
 obtain ⟨F, hFe⟩ : ∃ F, zba 0 l = F := ⟨_, rfl⟩
 rw [hFe] at hFa hPo hFf hFm ⊢
 generalize l.flatMap PE.pv = L at *
 refine G [13] ?_
 obtain ⟨ρ, hρ⟩ : ∃ ρ : Nat → Nat, ρ = fun o => bif Nat.beq o 0 then 100 else o := ⟨_, rfl⟩
 have hρ0 : ρ 0 = 100 := by rw [hρ]; rfl
 have hρa : ∀ o, o ≠ 0 → ρ o = o := fun o a1 => by rw [hρ]; simp only [nbeq a1, cond_false]
 refine ⟨qO, _, ρ, (.cellN _ _ _ _ _ _ _ _ _ rfl rfl U24 rfl sz24 qax .nil), ?_, rfl, ⟨⟨?_, hPo⟩, leO_of fun q hq => ⟨?_, ?_⟩⟩, zco ?_⟩
 ·rw [hρ]; rfl
 ·show St.heap _ (ρ 0) = .live (.rowA _ 5 l.length none (AV.renL ρ (pcs (fun i => i + 1000) 0 l)))
  rw [hρ0, ze8, zes (nm := fun i => ρ (i + 1000)) (nm' := fun i => i + 1000) l 0 (fun j hj => hρa _ (by omega))]
  rfl
 ·obtain ⟨j, hj, rfl⟩ := (hFm q).1 hq
  show St.heap _ (ρ (0 + j + 1000)) = .live (nrO _)
  rw [hρa _ (by omega), ← hFa j hj]
  simp only [Nat.zero_add, zbU, St.upd, za2, qbj, qcB, updL, St.of, zaR, nbeq (show j + 1000 ≠ 1 by omega), nbeq (show j + 1000 ≠ 2 by omega), nbeq (show j + 1000 ≠ 100 by omega), cond_false]
 ·obtain ⟨j, hj, rfl⟩ := (hFm q).1 hq
  rfl
 ·show (ρ 0 :: F.map fun p => ρ p.1).Nodup
  have e1 : (F.map fun p => ρ p.1) = (List.range l.length).map fun j => j + 1000 := by
   have e1 : (F.map fun p => ρ p.1) = (F.map Prod.fst).map ρ := by rw [qbW]; rfl
   rw [e1, hFf, qbW]
   refine qcb fun j hj => ?_
   show ρ (0 + j + 1000) = _
   rw [Nat.zero_add, hρa _ (by omega)]
  rw [e1, hρ0]
  exact cpN_nd3 _ qp
end Go.Proofs.YtlfjpippeeikdaaGreatDoor
