/- slices.BinarySearchFunc, strings.Compare, over data. -/
import Derived.Test.YtkdfdcodkeclmaaGreatDoorSIn1
import Derived.Lib.Bytealg
namespace Go.Proofs.YtkdfdcodkeclmaaGreatDoor
open Tryz
open Go.RowKit Go.Sort
set_option linter.unusedVariables false
set_option linter.unusedSimpArgs false
set_option maxRecDepth 100000
theorem fdiv2 (i j : Nat) : Int.fdiv ((i : Int) + (j : Int)) (2 ^ min (Int.toNat 1) IntKind.u64.bits) = (((i + j) / 2 : Nat) : Int) := by
 show Int.fdiv ((i : Int) + (j : Int)) 2 = _
 rw [Int.fdiv_eq_ediv_of_nonneg _ (by omega)]
 omega
def cmpB (a b : ByteArray) : Int := Lib.compareBytes a.data.toList b.data.toList
theorem cmpB_lt (a b : ByteArray) : cmpB a b < 0 ↔ sLt a b = true := by
 unfold cmpB sLt
 rw [ByteArray.toList_eq, ByteArray.toList_eq]
 generalize a.data.toList = x
 generalize b.data.toList = y
 induction x generalizing y with
 | nil => cases y <;> simp [Lib.compareBytes, Op.bytesLess]
 | cons u x ih =>
  cases y with
  | nil => simp [Lib.compareBytes, Op.bytesLess]
  | cons v y =>
   simp only [Lib.compareBytes, Op.bytesLess]
   by_cases h3 : u < v
   ·simp [h3]
   ·by_cases h4 : v < u
    ·have : u ≠ v := fun e => by subst e; exact h3 h4
     simp [h3, h4, this]
    ·have : u = v := UInt8.le_antisymm (UInt8.not_lt.1 h4) (UInt8.not_lt.1 h3)
     subst this
     simp [h3, ih]
section
variable {P : Program} {d : Option Tmp} {ty : TypeId} {pos : String} {af : Array Edge} {g : Option (Nat × Bool)}
theorem a_cmpstr {x y z : Operand} {ts : Array TypeId} {f : FuncId} {fn : Func} {s t : ByteArray} (hf : P.funcs[f]? = some fn) (hname : (fn.name == "runtime.NumGoroutine") = false) (hb : fn.body.isNone = true) (hn : Extern.findNext fn = none) (he : Extern.find fn = some Extern.BytealgCompare.compare) :
  AOp P ⟨d, .call { callee := .value x, args := #[y, z], argTypes := ts }, ty, pos, af, g⟩ [.fn f [], .p (.v (.string s)), .p (.v (.string t))] [] [] (.p (.v (.int .i64 (cmpB s t)))) :=
 zaE fun S m w ev hr => by
  have hr' : RepL S m w [.fn f [], .p (.v (.string s)), .p (.v (.string t))] [ev x, ev y, ev z] := by simpa [Op.operands, Call.operands] using hr
  obtain ⟨ha, hb1, hb2⟩ := repL3 hr'
  have hb1 := zbu hb1
  have hb2 := zbu hb2
  simp only [Rep, RepL] at ha
  obtain ⟨us, h3, rfl⟩ := ha
  refine ⟨.int .i64 (cmpB s t), ?_, za5 rfl⟩
  simp only [execOp, resolve, h3, Deferred.ofValue, invoke, Sem.run_bind, Sem.run_pure, Result.andThen_ok]
  have := run_callFunc_extern (P := P) hf hname hb hn he #[ev y, ev z] w
  rw [hb1, hb2, Lib.run_compareString] at this
  simpa [hb1, hb2, cmpB] using this
end
theorem cmpStr_s (s t : ByteArray) : Fn prog 116 [.p (.v (.string s)), .p (.v (.string t))] (.p (.v (.int .i64 (cmpB s t)))) [] := by
 refine fnI fun w0 A => ?_
 refine G [8] ?_
 refine zaa (a_cmpstr func135 (by kernel_rfl) rfl rfl (by kernel_rfl)) rfl rfl ?_
 refine G [3, 9, 0] ?_
 exact yE
theorem compare_s (s t : ByteArray) : Fn prog 82 [.p (.v (.string s)), .p (.v (.string t))] (.p (.v (.int .i64 (cmpB s t)))) [] := by
 have hC := cmpStr_s s t
 refine fnI fun w0 A => ?_
 refine G [8] ?_
 refine cK hC ?_
 refine G [3, 9, 0] ?_
 exact yE
theorem pick1_s (p : PE) (k : ByteArray) : Fn prog 81 [.agg p.cells, .p (.v (.string k))] (.p (.v (.int .i64 (cmpB p.key k)))) [] := by
 obtain ⟨pk, sh, ep, al, nn⟩ := p
 have hC := compare_s pk k
 show Fn prog _ [.agg [.p (.v (.string pk)), .p (.v (.string sh)), .p (.v (.string ep)), .p (.v (.int .i64 al)), .p (.sl nn.length 2 (nn.flatMap ntC))], _] (.p (.v (.int .i64 (cmpB pk k)))) _
 refine fnI fun w0 A => ?_
 refine G [10] ?_
 refine cK hC ?_
 refine G [3, 9, 0] ?_
 exact yE
theorem ncmp_s (m n : NtP) : Fn prog 67 [.agg ((ntC m).map AV.p), .agg ((ntC n).map AV.p)] (.p (.v (.int .i64 (zbj m.1 m.2 n.1 n.2)))) [] := nCmp_s m.1 m.2 n.1 n.2
set_option maxHeartbeats 4000000 in
theorem bsN_s (l : List NtP) (n : NtP) (p : Nat) (hn : l.length ≤ 1048576) (hp : p ≤ l.length) (hlo : ∀ u, u < p → (hu : u < l.length) → (fun m : NtP => zbj m.1 m.2 n.1 n.2) l[u] < 0) (hhi : ∀ u, p ≤ u → (hu : u < l.length) → ¬ (fun m : NtP => zbj m.1 m.2 n.1 n.2) l[u] < 0) :
  ∃ b, Fn prog 87 [.p (.sl l.length 2 (l.flatMap ntC)), .agg ((ntC n).map AV.p), .fn 67 []] (.tup [.p (.v (.int .i64 p)), .p (.v (.bool b))]) [] := by
 have hq := fun m => ncmp_s m n
 obtain ⟨c, hc⟩ : ∃ c, c = fun m : NtP => zbj m.1 m.2 n.1 n.2 := ⟨_, rfl⟩
 rw [← hc] at hlo hhi
 replace hq : ∀ x : NtP, Fn prog 67 [.agg ((fun m : NtP => (ntC m).map AV.p) x), .agg ((ntC n).map AV.p)] (.p (.v (.int .i64 (c x)))) [] := fun x => by rw [hc]; exact hq x
 clear hc
 obtain ⟨b, hb⟩ : ∃ b, b = if hk : p < l.length then decide (c (l[p]'hk) = 0) else false := ⟨_, rfl⟩
 refine ⟨b, ?_⟩
 refine fnI fun w0 A => ?_
 refine G [9] ?_
 refine zaa (zaL U58) rfl rfl ?_
 refine G [10] ?_
 refine zal (fun m st => ∃ i j : Nat, m + i = j ∧ i ≤ p ∧ p ≤ j ∧ j ≤ l.length ∧ st = St.of [(0, .p (.sl l.length 2 (l.flatMap ntC))), (4, .ref 4 0), (2, .fn 67 []), (8, .p (.v (.int .i64 l.length))), (9, .p (.v (.int .i64 i))), (10, .p (.v (.int .i64 j)))] [(4, .box 27 ((ntC n).map AV.p))]) l.length ?_ ?_
 ·refine ⟨_, zak id _ _ ?_ ?_ rfl, 0, l.length, by omega, by omega, by omega, by omega, rfl⟩
  ·(repeat (first | exact trivial | (refine ⟨⟨(by first | rfl | (simp; done) | (simp; omega)), rfl⟩, ?_⟩)))
  ·exact ⟨⟨rfl, rfl⟩, trivial⟩
 rintro m st ⟨i, j, hm, hip, hpj, hjn, rfl⟩
 by_cases hij : i < j
 ·refine G [5] ?_
  refine zaa (zaN (c := true) (by simp; omega)) rfl rfl ?_
  refine G [2] ?_
  obtain ⟨h, hh⟩ : ∃ h, (i + j) / 2 = h := ⟨_, rfl⟩
  have hlt : h < l.length := by omega
  have hx : l[h]? = some (l[h]'hlt) := List.getElem?_eq_getElem hlt
  have hch := zav (f := ntC) (k := 2) (fun _ => rfl) hx
  have hle := zau (f := ntC) (k := 2) (fun _ => rfl) hlt
  have hC := hq (l[h]'hlt)
  have hlo' : ¬ c (l[h]'hlt) < 0 → p ≤ h := fun h1 => by
   rcases Nat.lt_or_ge h p with h2 | h2
   ·exact absurd (hlo h h2 hlt) h1
   ·exact h2
  have hhi' : c (l[h]'hlt) < 0 → h + 1 ≤ p := fun h1 => by
   rcases Nat.lt_or_ge h p with h2 | h2
   ·exact h2
   ·exact absurd h1 (hhi h h2 hlt)
  clear hlo hhi hb
  generalize hxx : (l[h]'hlt) = x at *
  generalize l.flatMap ntC = L at *
  refine G [6] ?_
  refine zaa (zas (by first | exact IntWalk.i64_in _ (by omega) | rfl)) rfl rfl ?_
  refine zaa (zcy U3 underlying103 (by first | exact IntWalk.u64_in _ (by omega) | rfl)) rfl rfl ?_
  refine zaa (a_shr (by omega) ((fdiv2 i j).trans (by rw [hh]))) rfl rfl ?_
  refine zaa (zcy underlying103 U3 (by first | exact IntWalk.i64_in _ (by omega) | rfl)) rfl rfl ?_
  refine G [2] ?_
  by_cases hcx : c x < 0
  ·have h1 := hhi' hcx
   refine G [5] ?_
   refine zaa (zad U58 sz27 (by omega) (by omega) rfl) rfl rfl ?_
   refine zaa (zaq U27 rfl sz27 (by first | omega | (simp; done) | (simp; omega)) (hch)) rfl rfl ?_
   refine lN U27 rfl sz27 rfl rfl ⟨rfl, trivial⟩ ?_
   refine cK hC ?_
   refine zaa (zaN (c := true) (by simpa using hcx)) rfl rfl ?_
   refine G [2] ?_
   skip
   refine G [2] ?_
   refine zaa (zas (by first | exact IntWalk.i64_in _ (by omega) | rfl)) rfl rfl ?_
   refine G [2, 9, 0] ?_
   refine ⟨j - (h + 1), by omega, _, zak id [(0, .p (.sl l.length 2 L)), (4, .ref 4 0), (2, .fn 67 []), (8, .p (.v (.int .i64 l.length))), (9, .p (.v (.int .i64 (h + 1 : Nat)))), (10, .p (.v (.int .i64 j)))] [(4, .box 27 ((ntC n).map AV.p))] ?_ ?_ rfl, h + 1, j, by omega, by omega, by omega, by omega, rfl⟩
   ·(repeat (first | exact trivial | (refine ⟨⟨(by first | rfl | (simp; done) | (simp; omega)), rfl⟩, ?_⟩)))
   ·exact ⟨⟨rfl, rfl⟩, trivial⟩
  ·have h1 := hlo' hcx
   refine G [5] ?_
   refine zaa (zad U58 sz27 (by omega) (by omega) rfl) rfl rfl ?_
   refine zaa (zaq U27 rfl sz27 (by first | omega | (simp; done) | (simp; omega)) (hch)) rfl rfl ?_
   refine lN U27 rfl sz27 rfl rfl ⟨rfl, trivial⟩ ?_
   refine cK hC ?_
   refine zaa (zaN (c := false) (by simpa using hcx)) rfl rfl ?_
   refine G [2] ?_
   skip
   refine G [4, 9, 0] ?_
   refine ⟨h - i, by omega, _, zak id [(0, .p (.sl l.length 2 L)), (4, .ref 4 0), (2, .fn 67 []), (8, .p (.v (.int .i64 l.length))), (9, .p (.v (.int .i64 i))), (10, .p (.v (.int .i64 h)))] [(4, .box 27 ((ntC n).map AV.p))] ?_ ?_ rfl, i, h, by omega, by omega, by omega, by omega, rfl⟩
   ·(repeat (first | exact trivial | (refine ⟨⟨(by first | rfl | (simp; done) | (simp; omega)), rfl⟩, ?_⟩)))
   ·exact ⟨⟨rfl, rfl⟩, trivial⟩
 obtain rfl : i = j := by omega
 obtain rfl : i = p := by omega
 clear hlo hhi
 refine G [5] ?_
 refine zaa (zaN (c := false) (by simp)) rfl rfl ?_
 refine G [2] ?_
 by_cases hlt : i < l.length
 ·rw [dif_pos hlt] at hb
  have hx : l[i]? = some (l[i]'hlt) := List.getElem?_eq_getElem hlt
  have hch := zav (f := ntC) (k := 2) (fun _ => rfl) hx
  have hle := zau (f := ntC) (k := 2) (fun _ => rfl) hlt
  have hC := hq (l[i]'hlt)
  generalize hxx : (l[i]'hlt) = x at *
  generalize l.flatMap ntC = L at *
  refine G [6] ?_
  refine zaa (zaN (c := true) (by simp; omega)) rfl rfl ?_
  refine G [4] ?_
  refine zaa (zad U58 sz27 (by omega) (by omega) rfl) rfl rfl ?_
  refine zaa (zaq U27 rfl sz27 (by first | omega | (simp; done) | (simp; omega)) (hch)) rfl rfl ?_
  refine lN U27 rfl sz27 rfl rfl ⟨rfl, trivial⟩ ?_
  refine cK hC ?_
  refine zaa (zaA (c := b) (by rw [hb]; simp [Bool.beq_eq_decide_eq])) rfl rfl ?_
  refine G [5, 9, 0] ?_
  exact yE
 ·rw [dif_neg hlt] at hb
  subst hb
  generalize l.flatMap ntC = L at *
  refine G [6] ?_
  refine zaa (zaN (c := false) (by simp; omega)) rfl rfl ?_
  refine G [14, 9, 0] ?_
  exact yE
set_option maxHeartbeats 4000000 in
theorem bsP_s (l : List PE) (k : ByteArray) (p : Nat) (hn : l.length ≤ 1048576) (hp : p ≤ l.length) (hlo : ∀ u, u < p → (hu : u < l.length) → (fun p : PE => cmpB p.key k) l[u] < 0) (hhi : ∀ u, p ≤ u → (hu : u < l.length) → ¬ (fun p : PE => cmpB p.key k) l[u] < 0) :
  ∃ b, Fn prog 80 [.p (.sl l.length 5 (l.flatMap PE.pv)), .p (.v (.string k)), .fn 81 []] (.tup [.p (.v (.int .i64 p)), .p (.v (.bool b))]) [] := by
 have hq := fun p => pick1_s p k
 obtain ⟨c, hc⟩ : ∃ c, c = fun p : PE => cmpB p.key k := ⟨_, rfl⟩
 rw [← hc] at hlo hhi
 replace hq : ∀ x : PE, Fn prog 81 [.agg (PE.cells x), .p (.v (.string k))] (.p (.v (.int .i64 (c x)))) [] := fun x => by rw [hc]; exact hq x
 clear hc
 obtain ⟨b, hb⟩ : ∃ b, b = if hk : p < l.length then decide (c (l[p]'hk) = 0) else false := ⟨_, rfl⟩
 refine ⟨b, ?_⟩
 refine fnI fun w0 A => ?_
 refine G [8] ?_
 refine zaa (zaL U22) rfl rfl ?_
 refine G [10] ?_
 refine zal (fun m st => ∃ i j : Nat, m + i = j ∧ i ≤ p ∧ p ≤ j ∧ j ≤ l.length ∧ st = St.of [(0, .p (.sl l.length 5 (l.flatMap PE.pv))), (1, .p (.v (.string k))), (2, .fn 81 []), (8, .p (.v (.int .i64 l.length))), (9, .p (.v (.int .i64 i))), (10, .p (.v (.int .i64 j)))] []) l.length ?_ ?_
 ·refine ⟨_, zak id _ _ ?_ ?_ rfl, 0, l.length, by omega, by omega, by omega, by omega, rfl⟩
  ·(repeat (first | exact trivial | (refine ⟨⟨(by first | rfl | (simp; done) | (simp; omega)), rfl⟩, ?_⟩)))
  ·exact trivial
 rintro m st ⟨i, j, hm, hip, hpj, hjn, rfl⟩
 by_cases hij : i < j
 ·refine G [5] ?_
  refine zaa (zaN (c := true) (by simp; omega)) rfl rfl ?_
  refine G [2] ?_
  obtain ⟨h, hh⟩ : ∃ h, (i + j) / 2 = h := ⟨_, rfl⟩
  have hlt : h < l.length := by omega
  have hx : l[h]? = some (l[h]'hlt) := List.getElem?_eq_getElem hlt
  have hch := zav (f := PE.pv) (k := 5) (fun _ => rfl) hx
  have hle := zau (f := PE.pv) (k := 5) (fun _ => rfl) hlt
  have hC := hq (l[h]'hlt)
  have hlo' : ¬ c (l[h]'hlt) < 0 → p ≤ h := fun h1 => by
   rcases Nat.lt_or_ge h p with h2 | h2
   ·exact absurd (hlo h h2 hlt) h1
   ·exact h2
  have hhi' : c (l[h]'hlt) < 0 → h + 1 ≤ p := fun h1 => by
   rcases Nat.lt_or_ge h p with h2 | h2
   ·exact h2
   ·exact absurd h1 (hhi h h2 hlt)
  clear hlo hhi hb
  generalize hxx : (l[h]'hlt) = x at *
  generalize l.flatMap PE.pv = L at *
  refine G [6] ?_
  refine zaa (zas (by first | exact IntWalk.i64_in _ (by omega) | rfl)) rfl rfl ?_
  refine zaa (zcy U3 underlying103 (by first | exact IntWalk.u64_in _ (by omega) | rfl)) rfl rfl ?_
  refine zaa (a_shr (by omega) ((fdiv2 i j).trans (by rw [hh]))) rfl rfl ?_
  refine zaa (zcy underlying103 U3 (by first | exact IntWalk.i64_in _ (by omega) | rfl)) rfl rfl ?_
  refine G [2] ?_
  by_cases hcx : c x < 0
  ·have h1 := hhi' hcx
   refine G [5] ?_
   refine zaa (zad U22 sz60 (by omega) (by omega) rfl) rfl rfl ?_
   refine zaa (zaq U60 rfl sz60 (by first | omega | (simp; done) | (simp; omega)) (hch)) rfl rfl ?_
   refine mP rfl rfl ?_
   refine cK hC ?_
   refine zaa (zaN (c := true) (by simpa using hcx)) rfl rfl ?_
   refine G [2] ?_
   skip
   refine G [2] ?_
   refine zaa (zas (by first | exact IntWalk.i64_in _ (by omega) | rfl)) rfl rfl ?_
   refine G [2, 9, 0] ?_
   refine ⟨j - (h + 1), by omega, _, zak id [(0, .p (.sl l.length 5 L)), (1, .p (.v (.string k))), (2, .fn 81 []), (8, .p (.v (.int .i64 l.length))), (9, .p (.v (.int .i64 (h + 1 : Nat)))), (10, .p (.v (.int .i64 j)))] [] ?_ ?_ rfl, h + 1, j, by omega, by omega, by omega, by omega, rfl⟩
   ·(repeat (first | exact trivial | (refine ⟨⟨(by first | rfl | (simp; done) | (simp; omega)), rfl⟩, ?_⟩)))
   ·exact trivial
  ·have h1 := hlo' hcx
   refine G [5] ?_
   refine zaa (zad U22 sz60 (by omega) (by omega) rfl) rfl rfl ?_
   refine zaa (zaq U60 rfl sz60 (by first | omega | (simp; done) | (simp; omega)) (hch)) rfl rfl ?_
   refine mP rfl rfl ?_
   refine cK hC ?_
   refine zaa (zaN (c := false) (by simpa using hcx)) rfl rfl ?_
   refine G [2] ?_
   skip
   refine G [4, 9, 0] ?_
   refine ⟨h - i, by omega, _, zak id [(0, .p (.sl l.length 5 L)), (1, .p (.v (.string k))), (2, .fn 81 []), (8, .p (.v (.int .i64 l.length))), (9, .p (.v (.int .i64 i))), (10, .p (.v (.int .i64 h)))] [] ?_ ?_ rfl, i, h, by omega, by omega, by omega, by omega, rfl⟩
   ·(repeat (first | exact trivial | (refine ⟨⟨(by first | rfl | (simp; done) | (simp; omega)), rfl⟩, ?_⟩)))
   ·exact trivial
 obtain rfl : i = j := by omega
 obtain rfl : i = p := by omega
 clear hlo hhi
 refine G [5] ?_
 refine zaa (zaN (c := false) (by simp)) rfl rfl ?_
 refine G [2] ?_
 by_cases hlt : i < l.length
 ·rw [dif_pos hlt] at hb
  have hx : l[i]? = some (l[i]'hlt) := List.getElem?_eq_getElem hlt
  have hch := zav (f := PE.pv) (k := 5) (fun _ => rfl) hx
  have hle := zau (f := PE.pv) (k := 5) (fun _ => rfl) hlt
  have hC := hq (l[i]'hlt)
  generalize hxx : (l[i]'hlt) = x at *
  generalize l.flatMap PE.pv = L at *
  refine G [6] ?_
  refine zaa (zaN (c := true) (by simp; omega)) rfl rfl ?_
  refine G [4] ?_
  refine zaa (zad U22 sz60 (by omega) (by omega) rfl) rfl rfl ?_
  refine zaa (zaq U60 rfl sz60 (by first | omega | (simp; done) | (simp; omega)) (hch)) rfl rfl ?_
  refine mP rfl rfl ?_
  refine cK hC ?_
  refine zaa (zaA (c := b) (by rw [hb]; simp [Bool.beq_eq_decide_eq])) rfl rfl ?_
  refine G [5, 9, 0] ?_
  exact yE
 ·rw [dif_neg hlt] at hb
  subst hb
  generalize l.flatMap PE.pv = L at *
  refine G [6] ?_
  refine zaa (zaN (c := false) (by simp; omega)) rfl rfl ?_
  refine G [14, 9, 0] ?_
  exact yE
end Go.Proofs.YtkdfdcodkeclmaaGreatDoor
