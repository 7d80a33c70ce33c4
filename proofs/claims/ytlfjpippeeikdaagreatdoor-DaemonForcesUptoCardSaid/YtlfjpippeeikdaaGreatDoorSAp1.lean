/- slices.BinarySearchFunc, strings.Compare, over data. -/
import Derived.Test.YtlfjpippeeikdaaGreatDoorSIn1
import Derived.Lib.Bytealg
set_option linter.all false
namespace Go.Proofs.YtlfjpippeeikdaaGreatDoor
open Tryz
open Go.RowKit Go.Sort
set_option maxHeartbeats 16000000
set_option maxRecDepth 100000
theorem fdiv2 (i j : Nat) : Int.fdiv ((i : Int) + (j : Int)) (2 ^ min (Int.toNat 1) IntKind.u64.bits) = (((i + j) / 2 : Nat) : Int) := by
 show Int.fdiv ((i : Int) + (j : Int)) 2 = _
 rw [Int.fdiv_eq_ediv_of_nonneg _ (by omega)]
 omega
def cmpB (a b : ByteArray) : Int := Lib.compareBytes a.data.toList b.data.toList
theorem cmpB_lt (a b : ByteArray) : cmpB a b < 0 ↔ sLt a b = true := by
 unfold cmpB sLt
 rw [ByteArray.toList_eq, ByteArray.toList_eq]
 generalize a.data.toList = x
 generalize b.data.toList = y
 induction x generalizing y with
 | nil => cases y <;> simp [Lib.compareBytes, Op.bytesLess]
 | cons u x ih =>
  cases y with
  | nil => simp [Lib.compareBytes, Op.bytesLess]
  | cons v y =>
   simp only [Lib.compareBytes, Op.bytesLess]
   by_cases h3 : u < v
   ·simp [h3]
   ·by_cases h4 : v < u
    ·have : u ≠ v := fun e => by subst e; exact h3 h4
     simp [h3, h4, this]
    ·have : u = v := UInt8.le_antisymm (UInt8.not_lt.1 h4) (UInt8.not_lt.1 h3)
     subst this
     simp [h3, ih]
section
variable {P : Program} {d : Option Tmp} {ty : TypeId} {pos : String} {af : Array Edge} {g : Option (Nat × Bool)}
theorem a_cmpstr {x y z : Operand} {ts : Array TypeId} {f : FuncId} {fn : Func} {s t : ByteArray} (hf : P.funcs[f]? = some fn) (hname : (fn.name == "runtime.NumGoroutine") = false) (hb : fn.body.isNone = true) (hn : Extern.findNext fn = none) (he : Extern.find fn = some Extern.BytealgCompare.compare) :
 AOp P ⟨d, .call { callee := .value x, args := #[y, z], argTypes := ts }, ty, pos, af, g⟩ [.fn f [], qc s, qc t] [] [] (qd (cmpB s t)) :=
 zaD fun S m w ev hr => by
  have hr' : RepL S m w [.fn f [], qc s, qc t] [ev x, ev y, ev z] := by simpa [Op.operands, Call.operands] using hr
  obtain ⟨ha, hb1, hb2⟩ := zg3 hr'
  have hb1 := zba hb1
  have hb2 := zba hb2
  simp only [Rep, RepL] at ha
  obtain ⟨us, h3, rfl⟩ := ha
  refine ⟨.int .i64 (cmpB s t), ?_, za3 rfl⟩
  simp only [execOp, resolve, h3, Deferred.ofValue, invoke, qaK, qaL, qaD]
  have := run_callFunc_extern (P := P) hf hname hb hn he #[ev y, ev z] w
  rw [hb1, hb2, Lib.run_compareString] at this
  simpa [hb1, hb2, cmpB] using this
end
theorem cmpStr_s (s t : ByteArray) : Fn prog 190 [qc s, qc t] (qd (cmpB s t)) [] := by
 refine fnI fun w0 A => ?_
 refine G [8] ?_
 refine zaa (a_cmpstr func208 qm rfl rfl qm) rfl rfl ?_
 refine jdc ?_
 exact yE
theorem compare_s (s t : ByteArray) : Fn prog 167 [qc s, qc t] (qd (cmpB s t)) [] := by
 have hC := cmpStr_s s t
 exact jby
theorem pick1_s (p : PE) (k : ByteArray) : Fn prog 166 [.agg p.cells, qc k] (qd (cmpB p.key k)) [] := by
 obtain ⟨pk, sh, ep, al, nn⟩ := p
 have hC := compare_s pk k
 show Fn prog _ [.agg [qc pk, qc sh, qc ep, qd al, .p (.sl nn.length 2 (nn.flatMap ntC))], _] (qd (cmpB pk k)) _
 refine fnI fun w0 A => ?_
 refine G [10] ?_
 refine cK hC ?_
 refine jdc ?_
 exact yE
theorem ncmp_s (m n : NtP) : Fn prog 102 [.agg ((ntC m).map AV.p), .agg ((ntC n).map AV.p)] (qd (zbD m.1 m.2 n.1 n.2)) [] := nCmp_s m.1 m.2 n.1 n.2
theorem bsN_s (l : List NtP) (n : NtP) (p : Nat) (hn : l.length ≤ 1048576) (hp : p ≤ l.length) (hlo : ∀ u, u < p → (hu : u < l.length) → (fun m : NtP => zbD m.1 m.2 n.1 n.2) l[u] < 0) (hhi : ∀ u, p ≤ u → (hu : u < l.length) → ¬ (fun m : NtP => zbD m.1 m.2 n.1 n.2) l[u] < 0) :
 ∃ b, Fn prog 171 [.p (.sl l.length 2 (l.flatMap ntC)), .agg ((ntC n).map AV.p), .fn 102 []] (.tup [qd p, qf b]) [] := by
 have hq := fun m => ncmp_s m n
 obtain ⟨c, hc⟩ : ∃ c, c = fun m : NtP => zbD m.1 m.2 n.1 n.2 := ⟨_, rfl⟩
 rw [← hc] at hlo hhi
 replace hq : ∀ x : NtP, Fn prog 102 [.agg ((fun m : NtP => (ntC m).map AV.p) x), .agg ((ntC n).map AV.p)] (qd (c x)) [] := fun x => by rw [hc]; exact hq x
 clear hc
 obtain ⟨b, hb⟩ : ∃ b, b = if hk : p < l.length then decide (c (l[p]'hk) = 0) else false := ⟨_, rfl⟩
 refine ⟨b, ?_⟩
 refine fnI fun w0 A => ?_
 refine G [20] ?_
 refine zae (fun m st => ∃ i j : Nat, m + i = j ∧ i ≤ p ∧ p ≤ j ∧ j ≤ l.length ∧ st = St.of [(0, .p (.sl l.length 2 (l.flatMap ntC))), (4, .ref 4 0), (2, .fn 102 []), (8, qd l.length), (9, qd i), (10, qd j)] [(4, .box 82 ((ntC n).map AV.p))]) l.length ?_ ?_
 ·refine ⟨_, zad id _ _ ?_ ?_ rfl, 0, l.length, qk, qk, qk, qk, rfl⟩
  ·exact ja5
  ·exact ⟨⟨rfl, rfl⟩, trivial⟩
 rintro m st ⟨i, j, hm, hip, hpj, hjn, rfl⟩
 by_cases hij : i < j
 ·refine G [5, 4, 2] ?_
  obtain ⟨h, hh⟩ : ∃ h, (i + j) / 2 = h := ⟨_, rfl⟩
  have hlt : h < l.length := qk
  have hx : l[h]? = some (l[h]'hlt) := List.getElem?_eq_getElem hlt
  have hch := zaj (f := ntC) (k := 2) (fun _ => rfl) hx
  have hle := zak (f := ntC) (k := 2) (fun _ => rfl) hlt
  have hC := hq (l[h]'hlt)
  have hlo' : ¬ c (l[h]'hlt) < 0 → p ≤ h := fun h1 => by
   rcases qbH h p with h2 | h2
   ·exact absurd (hlo h h2 hlt) h1
   ·exact h2
  have hhi' : c (l[h]'hlt) < 0 → h + 1 ≤ p := fun h1 => by
   rcases qbH h p with h2 | h2
   ·exact h2
   ·exact absurd h1 (hhi h h2 hlt)
  clear hlo hhi hb
  generalize hxx : (l[h]'hlt) = x at *
  generalize l.flatMap ntC = L at *
  refine G [8] ?_
  refine zaa (a_shr qk ((fdiv2 i j).trans (by rw [hh]))) rfl rfl ?_
  refine G [3] ?_
  by_cases hcx : c x < 0
  ·have h1 := hhi' hcx
   refine G [8] ?_
   refine cK hC ?_
   refine G [0, 4, 2] ?_
   skip
   refine jcQ ?_
   refine ⟨j - (h + 1), qk, _, zad id [(0, .p (.sl l.length 2 L)), (4, .ref 4 0), (2, .fn 102 []), (8, qd l.length), (9, qd (h + 1 : Nat)), (10, qd j)] [(4, .box 82 ((ntC n).map AV.p))] ?_ ?_ rfl, h + 1, j, qk, qk, qk, qk, rfl⟩
   ·exact ja5
   ·exact ⟨⟨rfl, rfl⟩, trivial⟩
  ·have h1 := hlo' hcx
   refine G [8] ?_
   refine cK hC ?_
   refine G [0, 3, 2] ?_
   skip
   refine G [4, 9, 0] ?_
   refine ⟨h - i, qk, _, zad id [(0, .p (.sl l.length 2 L)), (4, .ref 4 0), (2, .fn 102 []), (8, qd l.length), (9, qd i), (10, qd h)] [(4, .box 82 ((ntC n).map AV.p))] ?_ ?_ rfl, i, h, qk, qk, qk, qk, rfl⟩
   ·exact ja5
   ·exact ⟨⟨rfl, rfl⟩, trivial⟩
 obtain rfl : i = j := qk
 obtain rfl : i = p := qk
 clear hlo hhi
 refine G [5, 3, 2] ?_
 by_cases hlt : i < l.length
 ·rw [dif_pos hlt] at hb
  have hx : l[i]? = some (l[i]'hlt) := List.getElem?_eq_getElem hlt
  have hch := zaj (f := ntC) (k := 2) (fun _ => rfl) hx
  have hle := zak (f := ntC) (k := 2) (fun _ => rfl) hlt
  have hC := hq (l[i]'hlt)
  generalize hxx : (l[i]'hlt) = x at *
  generalize l.flatMap ntC = L at *
  exact jb8
 ·rw [dif_neg hlt] at hb
  subst hb
  generalize l.flatMap ntC = L at *
  refine G [6, 3, 14, 9, 0] ?_
  exact yE
theorem bsP_s (l : List PE) (k : ByteArray) (p : Nat) (hn : l.length ≤ 1048576) (hp : p ≤ l.length) (hlo : ∀ u, u < p → (hu : u < l.length) → (fun p : PE => cmpB p.key k) l[u] < 0) (hhi : ∀ u, p ≤ u → (hu : u < l.length) → ¬ (fun p : PE => cmpB p.key k) l[u] < 0) :
 ∃ b, Fn prog 165 [.p (.sl l.length 5 (l.flatMap PE.pv)), qc k, .fn 166 []] (.tup [qd p, qf b]) [] := by
 have hq := fun p => pick1_s p k
 obtain ⟨c, hc⟩ : ∃ c, c = fun p : PE => cmpB p.key k := ⟨_, rfl⟩
 rw [← hc] at hlo hhi
 replace hq : ∀ x : PE, Fn prog 166 [.agg (PE.cells x), qc k] (qd (c x)) [] := fun x => by rw [hc]; exact hq x
 clear hc
 obtain ⟨b, hb⟩ : ∃ b, b = if hk : p < l.length then decide (c (l[p]'hk) = 0) else false := ⟨_, rfl⟩
 refine ⟨b, ?_⟩
 refine fnI fun w0 A => ?_
 refine G [19] ?_
 refine zae (fun m st => ∃ i j : Nat, m + i = j ∧ i ≤ p ∧ p ≤ j ∧ j ≤ l.length ∧ st = St.of [(0, .p (.sl l.length 5 (l.flatMap PE.pv))), (1, qc k), (2, .fn 166 []), (8, qd l.length), (9, qd i), (10, qd j)] []) l.length ?_ ?_
 ·refine ⟨_, zad id _ _ ?_ ?_ rfl, 0, l.length, qk, qk, qk, qk, rfl⟩
  ·exact ja5
  ·exact trivial
 rintro m st ⟨i, j, hm, hip, hpj, hjn, rfl⟩
 by_cases hij : i < j
 ·refine G [5, 4, 2] ?_
  obtain ⟨h, hh⟩ : ∃ h, (i + j) / 2 = h := ⟨_, rfl⟩
  have hlt : h < l.length := qk
  have hx : l[h]? = some (l[h]'hlt) := List.getElem?_eq_getElem hlt
  have hch := zaj (f := PE.pv) (k := 5) (fun _ => rfl) hx
  have hle := zak (f := PE.pv) (k := 5) (fun _ => rfl) hlt
  have hC := hq (l[h]'hlt)
  have hlo' : ¬ c (l[h]'hlt) < 0 → p ≤ h := fun h1 => by
   rcases qbH h p with h2 | h2
   ·exact absurd (hlo h h2 hlt) h1
   ·exact h2
  have hhi' : c (l[h]'hlt) < 0 → h + 1 ≤ p := fun h1 => by
   rcases qbH h p with h2 | h2
   ·exact h2
   ·exact absurd h1 (hhi h h2 hlt)
  clear hlo hhi hb
  generalize hxx : (l[h]'hlt) = x at *
  generalize l.flatMap PE.pv = L at *
  refine G [8] ?_
  refine zaa (a_shr qk ((fdiv2 i j).trans (by rw [hh]))) rfl rfl ?_
  refine G [3] ?_
  by_cases hcx : c x < 0
  ·have h1 := hhi' hcx
   refine G [8] ?_
   refine cK hC ?_
   refine G [0, 4, 2] ?_
   skip
   refine jcQ ?_
   refine ⟨j - (h + 1), qk, _, zad id [(0, .p (.sl l.length 5 L)), (1, qc k), (2, .fn 166 []), (8, qd l.length), (9, qd (h + 1 : Nat)), (10, qd j)] [] ?_ ?_ rfl, h + 1, j, qk, qk, qk, qk, rfl⟩
   ·exact ja5
   ·exact trivial
  ·have h1 := hlo' hcx
   refine G [8] ?_
   refine cK hC ?_
   refine G [0, 3, 2] ?_
   skip
   refine G [4, 9, 0] ?_
   refine ⟨h - i, qk, _, zad id [(0, .p (.sl l.length 5 L)), (1, qc k), (2, .fn 166 []), (8, qd l.length), (9, qd i), (10, qd h)] [] ?_ ?_ rfl, i, h, qk, qk, qk, qk, rfl⟩
   ·exact ja5
   ·exact trivial
 obtain rfl : i = j := qk
 obtain rfl : i = p := qk
 clear hlo hhi
 refine G [5, 3, 2] ?_
 by_cases hlt : i < l.length
 ·rw [dif_pos hlt] at hb
  have hx : l[i]? = some (l[i]'hlt) := List.getElem?_eq_getElem hlt
  have hch := zaj (f := PE.pv) (k := 5) (fun _ => rfl) hx
  have hle := zak (f := PE.pv) (k := 5) (fun _ => rfl) hlt
  have hC := hq (l[i]'hlt)
  generalize hxx : (l[i]'hlt) = x at *
  generalize l.flatMap PE.pv = L at *
  exact jb8
 ·rw [dif_neg hlt] at hb
  subst hb
  generalize l.flatMap PE.pv = L at *
  refine G [6, 3, 14, 9, 0] ?_
  exact yE
def pkV (k : PK) : List Value := [.string k.1, k.2.1, k.2.2.1, k.2.2.2.1, k.2.2.2.2]
theorem vs_pk (ks : List PK) : vs (ks.flatMap pkV) = ks.flatMap pkC := by
 unfold vs
 rw [List.map_flatMap]
 rfl
inductive PKR (S : Nat → Prop) (w : World) : List PE → List PK → Prop
 | nil : PKR S w [] []
 | cons (p : PE) (k : PK) (l : List PE) (ks : List PK) : p.key = k.1 → PRepL S w p.pv (pkV k) → PKR S w l ks → PKR S w (p :: l) (k :: ks)
theorem pkr_of {S : Nat → Prop} {w : World} : ∀ {l : List PE} {us : List Value}, PRepL S w (l.flatMap PE.pv) us → ∃ ks, PKR S w l ks ∧ us = ks.flatMap pkV
 | [], us, h => ⟨[], .nil, by simpa [PRepL] using h⟩
 | p :: l, us, h => by
  simp only [qbb, PE.pv, qa2, qbc, PRepL] at h
  obtain ⟨u0, _, rfl, h0, u1, _, rfl, h1, u2, _, rfl, h2, u3, _, rfl, h3, u4, us, rfl, h4, h5⟩ := h
  obtain ⟨ks, k1, rfl⟩ := pkr_of h5
  have h0' := h0
  simp only [PRep] at h0'
  obtain ⟨rfl, _⟩ := h0'
  refine ⟨(p.key, u1, u2, u3, u4) :: ks, .cons p _ l ks rfl ?_ k1, rfl⟩
  simp only [PE.pv, pkV, PRepL]
  exact ⟨_, _, rfl, h0, _, _, rfl, h1, _, _, rfl, h2, _, _, rfl, h3, _, _, rfl, h4, rfl⟩
theorem PKR.rep {S : Nat → Prop} {w : World} {l : List PE} {ks : List PK} (h : PKR S w l ks) : PRepL S w (l.flatMap PE.pv) (ks.flatMap pkV) := by
 induction h with
 | nil => simp [PRepL]
 | cons p k l ks h1 h2 _ ih =>
  rw [qbb, qbb]
  exact h2.append ih
theorem PKR.len {S : Nat → Prop} {w : World} {l : List PE} {ks : List PK} (h : PKR S w l ks) : ks.length = l.length := by
 induction h with
 | nil => rfl
 | cons p k l ks h1 h2 _ ih => simp [ih]
theorem PKR.take {S : Nat → Prop} {w : World} {l : List PE} {ks : List PK} (h : PKR S w l ks) : ∀ i, PKR S w (l.take i) (ks.take i) := by
 induction h with
 | nil => intro i; simpa using PKR.nil
 | cons p k l ks h1 h2 _ ih =>
  intro i
  cases i with
  | zero => exact .nil
  | succ i => exact .cons _ _ _ _ h1 h2 (ih i)
theorem PKR.drop {S : Nat → Prop} {w : World} {l : List PE} {ks : List PK} (h : PKR S w l ks) : ∀ i, PKR S w (l.drop i) (ks.drop i) := by
 induction h with
 | nil => intro i; simpa using PKR.nil
 | cons p k l ks h1 h2 h3 ih =>
  intro i
  cases i with
  | zero => exact .cons _ _ _ _ h1 h2 h3
  | succ i => exact ih i
theorem PKR.append {S : Nat → Prop} {w : World} {l l' : List PE} {ks ks' : List PK} (h : PKR S w l ks) (h' : PKR S w l' ks') : PKR S w (l ++ l') (ks ++ ks') := by
 induction h with
 | nil => exact h'
 | cons p k l ks h1 h2 _ ih => exact .cons _ _ _ _ h1 h2 ih
theorem PKR.filter {S : Nat → Prop} {w : World} {l : List PE} {ks : List PK} (q : ByteArray → Bool) (h : PKR S w l ks) : PKR S w (l.filter fun p => q p.key) (ks.filter fun k => q k.1) := by
 induction h with
 | nil => exact .nil
 | cons p k l ks h1 h2 _ ih =>
  simp only [List.filter_cons, h1]
  split
  ·exact .cons _ _ _ _ h1 h2 ih
  ·exact ih
def newP (k : ByteArray) : PE := ⟨k, ⟨#[]⟩, ⟨#[]⟩, 0, []⟩
def newK (k : ByteArray) : PK := (k, .string ⟨#[]⟩, .string ⟨#[]⟩, .int .i64 0, .slice none 0 0)
theorem new_rep (S : Nat → Prop) (w : World) (k : ByteArray) : PRepL S w (newP k).pv (pkV (newK k)) := by
 simp [newP, newK, PE.pv, pkV, PRepL, PRep, Value.oneCell']
 exact ⟨_, _, ⟨rfl, rfl⟩, rfl, _, _, rfl, rfl, _, _, rfl, rfl, _, _, rfl, rfl, _, rfl, _, _, rfl⟩
def delK (k : ByteArray) (l : List PE) : List PE := l.filter fun p => !decide (p.key = k)
theorem rmP_c (l : List PE) (k : ByteArray) (hn : l.length ≤ 1048576) (S : Nat → Prop) (w : World) (us : List Value) (h : PRepL S w (l.flatMap PE.pv) us) :
 ∃ us', PRepL S w ((delK k l).flatMap PE.pv) us' ∧ FnR prog 131 (.row 0 :: [.fn 132 [.ptr [qg k]]]) [(0, .row 48 5 l.length (vs us))] (.row 1) [(1, .row 48 5 (delK k l).length (vs us'))] := by
 obtain ⟨ks, h1, rfl⟩ := pkr_of h
 have h2 := h1.filter fun x => !decide (x = k)
 refine ⟨_, h2.rep, ?_⟩
 have h3 := delP_s ks k (by rw [h1.len]; exact hn)
 rw [vs_pk, vs_pk]
 rw [h1.len] at h3
 have h4 := h2.len
 rw [h4] at h3
 exact h3
theorem inP_c (l : List PE) (k : ByteArray) (i : Nat) (hi : i ≤ l.length) (hn : l.length ≤ 1048576) (S : Nat → Prop) (w : World) (us : List Value) (h : PRepL S w (l.flatMap PE.pv) us) :
 ∃ us', PRepL S w ((l.take i ++ newP k :: l.drop i).flatMap PE.pv) us' ∧ FnR prog 168 [.row 0, qd i, .psl 1 0 1 5] [(0, .row 48 5 l.length (vs us)), (1, .box 48 ((pkC (newK k)).map AV.p))] (.row 2) [(2, .row 48 5 (l.length + 1) (vs us'))] := by
 obtain ⟨ks, h1, rfl⟩ := pkr_of h
 have h2 := (h1.take i).append (PKR.cons (newP k) (newK k) _ _ rfl (new_rep S w k) (h1.drop i))
 refine ⟨_, h2.rep, ?_⟩
 have h3 := insP_s ks (newK k) i (by rw [h1.len]; exact hi) (by rw [h1.len]; exact hn)
 rw [vs_pk, vs_pk]
 rw [h1.len] at h3
 exact h3
theorem vs_of {S : Nat → Prop} {w : World} : ∀ {ps : List PV} {us : List Value}, ps.all PV.isV = true → PRepL S w ps us → vs us = ps
 | [], us, _, h => by simp only [PRepL] at h; subst h; rfl
 | p :: ps, us, hv, h => by
  simp only [PRepL] at h
  obtain ⟨u, us, rfl, h1, h2⟩ := h
  simp only [List.all_cons, qaT] at hv
  cases p with
  | v x =>
   simp only [PRep] at h1
   rw [h1.1]
   have := vs_of hv.2 h2
   simp only [vs, qaF] at this ⊢
   rw [this]
  | sl n s cs => simp [PV.isV] at hv
  | pt cs => simp [PV.isV] at hv
def ntV (n : NtP) : List Value := [.int .u32 n.1, .int .i64 n.2]
theorem vs_nt (l : List NtP) : vs (l.flatMap ntV) = l.flatMap ntC := by
 unfold vs
 rw [List.map_flatMap]
 rfl
theorem nt_isV (l : List NtP) : (l.flatMap ntC).all PV.isV = true := by
 induction l with
 | nil => rfl
 | cons n l ih => rw [qbb, List.all_append, ih]; rfl
theorem nt_rep (S : Nat → Prop) (w : World) (l : List NtP) : PRepL S w (l.flatMap ntC) (l.flatMap ntV) := by
 rw [← vs_nt]
 refine vs_rep fun x hx => ?_
 obtain ⟨n, _, hn⟩ := List.mem_flatMap.1 hx
 simp only [ntV, qaI, qbr, or_false] at hn
 rcases hn with rfl | rfl <;> rfl
def delN (n : NtP) (l : List NtP) : List NtP := l.filter fun m => !decide (m = n)
theorem rmN_c (l : List NtP) (n : NtP) (hn : l.length ≤ 1048576) (S : Nat → Prop) (w : World) (us : List Value) (h : PRepL S w (l.flatMap ntC) us) :
 ∃ us', PRepL S w ((delN n l).flatMap ntC) us' ∧ FnR prog 169 (.row 0 :: [.fn 170 [.ptr (ntC n)]]) [(0, .row 82 2 l.length (vs us))] (.row 1) [(1, .row 82 2 (delN n l).length (vs us'))] := by
 refine ⟨_, nt_rep S w _, ?_⟩
 rw [vs_nt, vs_of (nt_isV l) h]
 exact delN_s l n hn
theorem inN_c (l : List NtP) (x : NtP) (i : Nat) (hi : i ≤ l.length) (hn : l.length ≤ 1048576) (S : Nat → Prop) (w : World) (us : List Value) (h : PRepL S w (l.flatMap ntC) us) :
 ∃ us', PRepL S w ((l.take i ++ x :: l.drop i).flatMap ntC) us' ∧ FnR prog 172 [.row 0, qd i, .psl 1 0 1 2] [(0, .row 82 2 l.length (vs us)), (1, .box 82 ((ntC x).map AV.p))] (.row 2) [(2, .row 82 2 (l.length + 1) (vs us'))] := by
 refine ⟨_, nt_rep S w _, ?_⟩
 rw [vs_nt, vs_of (nt_isV l) h]
 exact insN_s l x i hi hn
theorem peerNo_s (key : ByteArray) (port : Int) (l : List PE) (ok : CF.OK ⟨key, port, l⟩) (pt : ByteArray) (h : pt = ⟨#[]⟩ ∨ ¬ peN pt l < l.length) : FnO prog 130 [.ref 0 0, qc pt] [(0, .live (.box 24 [qc key, qd port, .row 1])), (1, .live (.row 48 5 l.length (l.flatMap PE.pv)))] [(0, .live (.box 24 [qc key, qd port, .row 1])), (1, .live (.row 48 5 l.length (l.flatMap PE.pv)))] (.tup [.p (.v (.pointer none)), qd 13]) := by
 have hF := zep ⟨key, port, l⟩ ok pt
 change Fn prog _ [.agg (cfC key port l.length (l.flatMap PE.pv)), _] (if peN pt l < l.length then _ else _) _ at hF
 have hn := ok.len
 dsimp only at hn
 by_cases h1 : peN pt l < l.length
 ·have h0 : pt = ⟨#[]⟩ := h.resolve_right (fun h2 => h2 h1)
  rw [if_pos h1] at hF
  generalize l.flatMap PE.pv = L at *
  refine fnIO fun w0 A heap => ?_
  refine G [11] ?_
  refine cV hF ?_
  refine G [10, 4, 12, 9, 0] ?_
  exact jan
 ·rw [if_neg h1] at hF
  generalize l.flatMap PE.pv = L at *
  refine fnIO fun w0 A heap => ?_
  refine G [11] ?_
  refine cV hF ?_
  refine G [6] ?_
  by_cases h0 : pt = ⟨#[]⟩
  ·refine G [4, 4, 12, 9, 0] ?_
   exact jan
  ·refine G [4, 3, 12, 9, 0] ?_
   exact jan
theorem zfk (key : ByteArray) (port : Int) (l : List PE) (ok : CF.OK ⟨key, port, l⟩) (pt : ByteArray) (h0 : pt ≠ ⟨#[]⟩) (h1 : peN pt l < l.length) : FnO prog 130 [.ref 0 0, qc pt] [(0, .live (.box 24 [qc key, qd port, .row 1])), (1, .live (.row 48 5 l.length (l.flatMap PE.pv)))] [(0, .live (.box 24 [qc key, qd port, .row 1])), (1, .live (.row 48 5 l.length (l.flatMap PE.pv)))] (.tup [.ref 1 (peN pt l * 5), qd 0]) := by
 have hF := zep ⟨key, port, l⟩ ok pt
 change Fn prog _ [.agg (cfC key port l.length (l.flatMap PE.pv)), _] (if peN pt l < l.length then _ else _) _ at hF
 have hn := ok.len
 dsimp only at hn
 rw [if_pos h1] at hF
 generalize l.flatMap PE.pv = L at *
 generalize peN pt l = N at *
 refine fnIO fun w0 A heap => ?_
 refine G [11] ?_
 refine cV hF ?_
 refine G [10, 3, 2, 1, 16] ?_
 exact jan
theorem pickOwn_s (key : ByteArray) (port : Int) (l : List PE) (ok : CF.OK ⟨key, port, l⟩) : FnO prog 129 [.ref 0 0, qc key] [(0, .live (.box 24 [qc key, qd port, .row 1])), (1, .live (.row 48 5 l.length (l.flatMap PE.pv)))] [(0, .live (.box 24 [qc key, qd port, .row 1])), (1, .live (.row 48 5 l.length (l.flatMap PE.pv)))] (qd 14) := by
 clear ok
 generalize l.flatMap PE.pv = L at *
 refine fnIO fun w0 A heap => ?_
 refine G [12, 4, 7, 9, 0] ?_
 exact jaC
theorem pickOld_s (key : ByteArray) (port : Int) (l : List PE) (ok : CF.OK ⟨key, port, l⟩) (k : ByteArray) (h0 : k ≠ key) (h1 : peN k l < l.length) : FnO prog 129 [.ref 0 0, qc k] [(0, .live (.box 24 [qc key, qd port, .row 1])), (1, .live (.row 48 5 l.length (l.flatMap PE.pv)))] [(0, .live (.box 24 [qc key, qd port, .row 1])), (1, .live (.row 48 5 l.length (l.flatMap PE.pv)))] (qd 0) := by
 have hF := zep ⟨key, port, l⟩ ok k
 change Fn prog _ [.agg (cfC key port l.length (l.flatMap PE.pv)), _] (if peN k l < l.length then _ else _) _ at hF
 rw [if_pos h1] at hF
 generalize l.flatMap PE.pv = L at *
 refine fnIO fun w0 A heap => ?_
 refine G [12, 3, 10] ?_
 refine cV hF ?_
 refine G [9, 1, 7, 9, 0] ?_
 exact jaC
theorem pickFull_s (key : ByteArray) (port : Int) (l : List PE) (ok : CF.OK ⟨key, port, l⟩) (k : ByteArray) (h0 : k ≠ key) (h1 : ¬ peN k l < l.length) (h2 : l.length = 6) : FnO prog 129 [.ref 0 0, qc k] [(0, .live (.box 24 [qc key, qd port, .row 1])), (1, .live (.row 48 5 l.length (l.flatMap PE.pv)))] [(0, .live (.box 24 [qc key, qd port, .row 1])), (1, .live (.row 48 5 l.length (l.flatMap PE.pv)))] (qd 7) := by
 have hF := zep ⟨key, port, l⟩ ok k
 change Fn prog _ [.agg (cfC key port l.length (l.flatMap PE.pv)), _] (if peN k l < l.length then _ else _) _ at hF
 rw [if_neg h1] at hF
 generalize l.flatMap PE.pv = L at *
 refine fnIO fun w0 A heap => ?_
 refine G [12, 3, 10] ?_
 refine cV hF ?_
 refine G [21, 4, 7, 9, 0] ?_
 exact jaC
theorem pickNew_s (key : ByteArray) (port : Int) (l : List PE) (ok : CF.OK ⟨key, port, l⟩) (k : ByteArray) (h0 : k ≠ key) (h1 : ¬ peN k l < l.length) (h2 : l.length ≠ 6) (p : Nat) (hp : p ≤ l.length) (hlo : ∀ u, u < p → (hu : u < l.length) → sLt l[u].key k = true) (hhi : ∀ u, p ≤ u → (hu : u < l.length) → ¬ sLt l[u].key k = true) :
 FnO prog 129 [.ref 0 0, qc k] [(0, .live (.box 24 [qc key, qd port, .row 1])), (1, .live (.row 48 5 l.length (l.flatMap PE.pv))), (48, .un), (49, .un)] [(0, .live (.box 24 [qc key, qd port, .row 49])), (1, .dead), (48, .dead), (49, .live (.row 48 5 (l.length + 1) ((l.take p ++ newP k :: l.drop p).flatMap PE.pv)))] (qd 0) := by
 have hF := zep ⟨key, port, l⟩ ok k
 change Fn prog _ [.agg (cfC key port l.length (l.flatMap PE.pv)), _] (if peN k l < l.length then _ else _) _ at hF
 rw [if_neg h1] at hF
 have hn := ok.len
 dsimp only at hn
 obtain ⟨fb, hB⟩ := bsP_s l k p hn hp (fun u h3 hu => (cmpB_lt _ _).2 (hlo u h3 hu)) (fun u h3 hu h4 => hhi u h3 hu ((cmpB_lt _ _).1 h4))
 have hI := inP_c l k p hp hn
 clear hlo hhi
 generalize (l.take p ++ newP k :: l.drop p).flatMap PE.pv = L' at *
 generalize l.flatMap PE.pv = L at *
 refine fnIO fun w0 A heap => ?_
 refine G [12, 3, 10] ?_
 refine cV hF ?_
 refine G [21, 3, 10] ?_
 refine cV hB ?_
 refine G [16] ?_
 refine jdZ (zd3 48 U22 sz48 zc48 (qaA rfl) (qaA rfl) rfl rfl (qaA rfl)) ?_
 refine zab (a_callR2 (o' := 49) (n := l.length) (n' := l.length + 1) (qs := L') func168 rfl rfl rfl rfl qw hI) rfl rfl ⟨rfl, rfl, rfl, trivial⟩ ?_
 refine G [9] ?_
 exact jaC
end Go.Proofs.YtlfjpippeeikdaaGreatDoor
