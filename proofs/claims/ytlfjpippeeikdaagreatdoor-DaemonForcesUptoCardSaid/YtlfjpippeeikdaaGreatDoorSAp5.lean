/- Orders of keys and nets; what is put into a sorted list. Plain Lean. -/
import Derived.Test.YtlfjpippeeikdaaGreatDoorSSo1
import Derived.Test.YtlfjpippeeikdaaGreatDoorSAp4
set_option linter.all false
namespace Go.Proofs.YtlfjpippeeikdaaGreatDoor
open Go.RowKit Go.Sort
theorem bl_irrefl : ∀ x : List UInt8, Op.bytesLess x x = false
 | [] => rfl
 | a :: x => by simp [Op.bytesLess, bl_irrefl x]
theorem bl_trans : ∀ x y z : List UInt8, Op.bytesLess x y = true → Op.bytesLess y z = true → Op.bytesLess x z = true
 | [], y, [], h1, h2 => by cases y <;> simp [Op.bytesLess] at h2
 | [], y, c :: z, h1, h2 => rfl
 | a :: x, [], z, h1, h2 => by simp [Op.bytesLess] at h1
 | a :: x, b :: y, [], h1, h2 => by simp [Op.bytesLess] at h2
 | a :: x, b :: y, c :: z, h1, h2 => by
  simp only [Op.bytesLess, Bool.or_eq_true, decide_eq_true_eq, qaT, beq_iff_eq] at h1 h2 ⊢
  rcases h1 with h1 | ⟨rfl, h1⟩ <;> rcases h2 with h2 | ⟨rfl, h2⟩
  ·exact .inl (UInt8.lt_trans h1 h2)
  ·exact .inl h1
  ·exact .inl h2
  ·exact .inr ⟨rfl, bl_trans x y z h1 h2⟩
theorem bl_total : ∀ x y : List UInt8, Op.bytesLess x y = false → Op.bytesLess y x = false → x = y
 | [], [], _, _ => rfl
 | [], b :: y, h1, _ => by simp [Op.bytesLess] at h1
 | a :: x, [], _, h2 => by simp [Op.bytesLess] at h2
 | a :: x, b :: y, h1, h2 => by
  simp only [Op.bytesLess, qbB, decide_eq_false_iff_not, Bool.and_eq_false_iff, beq_eq_false_iff_ne] at h1 h2
  have hab : a = b := UInt8.le_antisymm (UInt8.not_lt.1 h2.1) (UInt8.not_lt.1 h1.1)
  subst hab
  have h3 := h1.2.resolve_left (fun h => h rfl)
  have h4 := h2.2.resolve_left (fun h => h rfl)
  rw [bl_total x y h3 h4]
theorem zhH (a : ByteArray) : sLt a a = false := bl_irrefl _
theorem zfg {a b c : ByteArray} (h1 : sLt a b = true) (h2 : sLt b c = true) : sLt a c = true := bl_trans _ _ _ h1 h2
theorem sLt_total {a b : ByteArray} (h1 : sLt a b = false) (h2 : sLt b a = false) : a = b := by
 have := bl_total _ _ h1 h2
 rw [ByteArray.toList_eq, ByteArray.toList_eq] at this
 exact ByteArray.ext (Array.toList_inj.1 this)
def Srt {α : Type} (lt : α → α → Prop) (l : List α) : Prop := ∀ i j, (h : i < j) → (hj : j < l.length) → lt (l[i]'qk) l[j]
theorem srt_of {α : Type} {lt : α → α → Prop} (ht : ∀ a b c, lt a b → lt b c → lt a c) {l : List α} (h : ∀ i, (hi : i + 1 < l.length) → lt (l[i]'qk) l[i + 1]) : Srt lt l := by
 intro i j hij hj
 induction j with
 | zero => omega
 | succ j ih =>
  by_cases e : i = j
  ·subst e; exact h i hj
  ·exact ht _ _ _ (ih qk qk) (h j hj)
theorem srt_filter {α : Type} {lt : α → α → Prop} (q : α → Bool) : ∀ {l : List α}, Srt lt l → Srt lt (l.filter q) := by
 intro l h
 have hp : l.Pairwise lt := List.pairwise_iff_getElem.2 fun i j hi hj hij => h i j hij hj
 have hp2 : (l.filter q).Pairwise lt := hp.sublist List.filter_sublist
 intro i j hij hj
 exact List.pairwise_iff_getElem.1 hp2 i j qk hj hij
def posL {α : Type} (lt : α → Bool) (l : List α) : Nat := l.findIdx fun x => !lt x
theorem zfW {α : Type} (lt : α → Bool) (l : List α) : posL lt l ≤ l.length := List.findIdx_le_length
theorem zim {α : Type} {lt : α → Bool} {l : List α} (u : Nat) (h : u < posL lt l) (hu : u < l.length) : lt l[u] = true := by
 have := List.not_of_lt_findIdx (p := fun x => !lt x) (xs := l) h
 simpa using this
theorem posL_hi {α : Type} {lt : α → Bool} {l : List α} (hm : ∀ i j, (h : i < j) → (hj : j < l.length) → lt l[j] = true → lt (l[i]'qk) = true) (u : Nat) (h : posL lt l ≤ u) (hu : u < l.length) : lt l[u] = false := by
 have hp : posL lt l < l.length := qk
 have h1 : (!lt (l[posL lt l]'hp)) = true := List.findIdx_getElem (p := fun x => !lt x) (xs := l) (w := hp)
 rcases hc : lt l[u] with _ | _
 ·rfl
 ·exfalso
  have h2 : lt (l[posL lt l]'hp) = true := by
   rcases qbH (posL lt l) u with h3 | h3
   ·exact hm _ _ h3 hu hc
   ·have e : posL lt l = u := qk
    simp only [e]; exact hc
  rw [h2] at h1; cases h1
theorem bk_char {α : Type} {g : α → Bool} {l : List α} {p : Nat} (hlo : ∀ u, u < p → (hu : u < l.length) → g l[u] = false) (hhi : ∀ u, p ≤ u → (hu : u < l.length) → g l[u] = true) : ∀ k, p ≤ k → k ≤ l.length → bk g l k = p
 | 0, h, _ => by
  have : p = 0 := qk
  rw [this]; rfl
 | k + 1, h, hk => by
  have hx : l[k]? = some (l[k]'qk) := List.getElem?_eq_getElem qk
  by_cases e : p = k + 1
  ·rw [bk_no hx (hlo k (by omega) (by omega)), e]
  ·rw [bk_yes hx (hhi k (by omega) (by omega)), bk_char hlo hhi k (by omega) (by omega)]
theorem insE_at {α : Type} {gt : α → α → Bool} {l : List α} {x : α} {p : Nat} (hp : p ≤ l.length) (hlo : ∀ u, u < p → (hu : u < l.length) → gt l[u] x = false) (hhi : ∀ u, p ≤ u → (hu : u < l.length) → gt l[u] x = true) : insE gt l x = l.take p ++ x :: l.drop p := by
 unfold insE
 rw [bk_char hlo hhi l.length hp (Nat.le_refl _)]
theorem sortE_id {α : Type} {gt : α → α → Bool} {l : List α} (h : ∀ i j, (h : i < j) → (hj : j < l.length) → gt (l[i]'qk) l[j] = false) : ∀ i, i ≤ l.length → zcz gt (l.take i) = l.take i
 | 0, _ => rfl
 | i + 1, hi => by
  have hx : l[i]? = some (l[i]'qk) := List.getElem?_eq_getElem qk
  rw [zfQ gt l i _ hx, sortE_id h i (by omega), insE_at (p := i) (by rw [List.length_take]; omega) (fun u hu hl => by rw [qb4]; exact h u i hu (by omega)) (fun u hu hl => by rw [List.length_take] at hl; omega)]
  rw [qaN (by rw [List.length_take]; omega), qbe (by rw [List.length_take]; omega), ← qaM (by omega)]
theorem sortE_put {α : Type} {gt : α → α → Bool} {l : List α} {x : α} {p : Nat} (h : ∀ i j, (h : i < j) → (hj : j < l.length) → gt (l[i]'qk) l[j] = false) (hp : p ≤ l.length) (hlo : ∀ u, u < p → (hu : u < l.length) → gt l[u] x = false) (hhi : ∀ u, p ≤ u → (hu : u < l.length) → gt l[u] x = true) : zcz gt (l ++ [x]) = l.take p ++ x :: l.drop p := by
 have h1 := sortE_id h l.length (Nat.le_refl _)
 rw [qa5] at h1
 have h2 : zcz gt (l ++ [x]) = insE gt (zcz gt l) x := by
  unfold zcz
  rw [qbJ]
  rfl
 rw [h2, h1, insE_at hp hlo hhi]
theorem ord3_lt {a b : Int} : ord3 a b < 0 ↔ a < b := by unfold ord3; split <;> (try split) <;> omega
theorem ord3_gt {a b : Int} : 0 < ord3 a b ↔ b < a := by unfold ord3; split <;> (try split) <;> omega
def nLt (m n : NtP) : Prop := zbD m.1 m.2 n.1 n.2 < 0
theorem zg9 {m n : NtP} : nLt m n ↔ m.1 < n.1 ∨ (m.1 = n.1 ∧ m.2 < n.2) := by
 unfold nLt zbD
 split
 ·rename_i h; rw [ord3_lt]; constructor
  ·intro h2; exact .inr ⟨h, h2⟩
  ·rintro (h2 | h2)
   ·omega
   ·exact h2.2
 ·rename_i h; rw [ord3_lt]; constructor
  ·intro h2; exact .inl h2
  ·rintro (h2 | h2)
   ·exact h2
   ·exact absurd h2.1 h
theorem nGt_iff {m n : NtP} : 0 < zbD m.1 m.2 n.1 n.2 ↔ nLt n m := by
 rw [zg9]
 unfold zbD
 split
 ·rename_i h; rw [ord3_gt]; constructor
  ·intro h2; exact .inr ⟨h.symm, h2⟩
  ·rintro (h2 | h2)
   ·omega
   ·exact h2.2
 ·rename_i h; rw [ord3_gt]; constructor
  ·intro h2; exact .inl h2
  ·rintro (h2 | h2)
   ·exact h2
   ·exact absurd h2.1.symm h
theorem nLt_trans (a b c : NtP) (h1 : nLt a b) (h2 : nLt b c) : nLt a c := by
 rw [zg9] at *
 omega
theorem nLt_total {m n : NtP} (h1 : ¬ nLt m n) (h2 : ¬ nLt n m) : m = n := by
 rw [zg9] at h1 h2
 exact Prod.ext qk qk
theorem fnz_all {f : Nat → Int} : ∀ {n : Nat}, fnz f n = 0 → ∀ j, j < n → f j = 0
 | n + 1, h, j, hj => by
  have h1 : fnz f n = 0 := by
   by_cases e : fnz f n = 0
   ·exact e
   ·simp [fnz, e] at h
  have h2 : f n = 0 := by simpa [fnz, h1] using h
  by_cases e : j = n
  ·subst e; exact h2
  ·exact fnz_all h1 j qk
theorem zhs {c : CF} (h : cfE c = 0) : c.ps.length ≤ 6 ∧ (∀ i, (hi : i < c.ps.length) → peE c.ps[i] = 0) ∧ ∀ i, (hi : i + 1 < c.ps.length) → sLt (c.ps[i]'qk).key c.ps[i + 1].key = true := by
 unfold cfE at h
 split at h
 ·rename_i h1; exact absurd h h1.2
 split at h
 ·cases h
 split at h
 ·cases h
 rename_i h6
 have hall := fnz_all h
 have hat : ∀ i, (hi : i < c.ps.length) → peG c.ps i = c.ps[i] := fun i hi => zcd (List.getElem?_eq_getElem hi)
 refine ⟨qk, fun i hi => ?_, fun i hi => ?_⟩
 ·have := hall i hi
  unfold zdJ at this
  rw [hat i hi] at this
  by_cases e : peE c.ps[i] = 0
  ·exact e
  ·rw [if_pos e] at this; exact absurd this e
 ·have := hall (i + 1) hi
  unfold zdJ at this
  rw [hat (i + 1) hi, Nat.add_sub_cancel, hat i (by omega)] at this
  by_cases e : peE c.ps[i + 1] = 0
  ·rw [if_neg (fun h => h e)] at this
   by_cases e2 : (0 < i + 1 ∧ leK c.ps[i + 1].key (c.ps[i]'qk).key = true) ∨ c.ps[i + 1].key = c.key
   ·rw [if_pos e2] at this; cases this
   ·have h3 : leK c.ps[i + 1].key (c.ps[i]'qk).key = false := by
     rcases hl : leK c.ps[i + 1].key (c.ps[i]'qk).key with _ | _
     ·rfl
     ·exact absurd (.inl ⟨qk, hl⟩) e2
    unfold leK at h3
    rw [qbB, decide_eq_false_iff_not] at h3
    rcases h4 : sLt (c.ps[i]'qk).key c.ps[i + 1].key with _ | _
    ·exact absurd (sLt_total h3.1 h4) h3.2
    ·rfl
  ·rw [if_pos e] at this; exact absurd this e
theorem zfl {p : PE} (h : peE p = 0) : p.nets.length ≤ 8 ∧ ∀ i, (hi : i + 1 < p.nets.length) → nLt (p.nets[i]'qk) p.nets[i + 1] := by
 refine ⟨(zcJ h).1, fun i hi => ?_⟩
 unfold peE at h
 split at h
 ·exact absurd h qP
 split at h
 ·rename_i h1; exact absurd h h1.2
 split at h
 ·cases h
 split at h
 ·rename_i h1; exact absurd h h1.2
 split at h
 ·cases h
 split at h
 ·cases h
 have := fnz_all h (i + 1) hi
 unfold zcx at this
 have hat : ∀ j, (hj : j < p.nets.length) → ntG p.nets j = p.nets[j] := fun j hj => by unfold ntG; rw [List.getD_eq_getElem?_getD, List.getElem?_eq_getElem hj]; rfl
 rw [hat (i + 1) hi, Nat.add_sub_cancel, hat i (by omega)] at this
 split at this
 ·rename_i h1; exact absurd this h1
 split at this
 ·cases this
 ·rename_i h1
  unfold nLt
  have : ¬ (0 ≤ zbD (p.nets[i]'qk).1 (p.nets[i]'qk).2 p.nets[i + 1].1 p.nets[i + 1].2) := fun h2 => h1 ⟨qk, h2⟩
  omega
end Go.Proofs.YtlfjpippeeikdaaGreatDoor
namespace Go.Proofs.YtlfjpippeeikdaaGreatDoor
open Tryz
open Go.RowKit Go.Sort
set_option maxHeartbeats 16000000
set_option maxRecDepth 100000
section
variable {P : Program} {ops : Array Oper} {K : List Foot → St → Prop} {l : List Oper} {fs : List Foot} {st : St} {d : Option Tmp} {ty : TypeId} {pos : String} {af : Array Edge} {gd : Option (Nat × Bool)}
theorem r_callO1 {x : Operand} {args : Array Operand} {ts : Array TypeId} {f : FuncId} {fn : Func} {zs cs : List AV} {res : AV} {rds wrs : List (Nat × Slot)} {F1 F2 : List Nat} (hC : FnO P f zs rds wrs res) (hx : st.ev x = .fn f cs) (hxs : args.toList.map st.ev ++ cs = zs) (hf : P.funcs[f]? = some fn) (hb : fn.body.isNone = false) (hn : (fn.name == "runtime.NumGoroutine") = false)
 (hrd : Rds st rds) (hg : zat ops ⟨d, .call { callee := .value x, args := args, argTypes := ts }, ty, pos, af, gd⟩ st = some true) (h1 : rds.map Prod.fst = F1) (h2 : wrs.map Prod.fst = F2)
 (k : ARun P ops K l (fs ++ [(F1, F2)]) ((st.upd wrs).put d res)) :
 ARun P ops K (⟨d, .call { callee := .value x, args := args, argTypes := ts }, ty, pos, af, gd⟩ :: l) fs st := by
 subst h1 h2
 exact zaK hC hx hxs hf hb hn hrd hg k
end
def sA (k : Int) (t : ByteArray) (n a b : Int) : List AV := [qd k, qc t, qd n, qe a, qd b]
def oN (pt t : ByteArray) (n a b : Int) : List (Nat × Slot) := [(3, .live (.box 107 (sA 10 t n a b))), (4, .live (.box 9 [qc pt])), (5, .live (.box 107 (sA 10 t n a b)))]
theorem mvN_nd3 : ∀ n, n < 7 → (0 :: 1 :: (List.range n).map fun i => 0 + i + 1000).Nodup := qw
theorem mvN_nd4 : ∀ n, n < 7 → (3 :: 4 :: 5 :: mvN n).Nodup := qw
theorem one10_s (key : ByteArray) (port : Int) (l : List PE) (ok : CF.OK ⟨key, port, l⟩) (pt t : ByteArray) (n a b : Int) (hpt : pt ≠ ⟨#[]⟩) (hJ : peN pt l < l.length) (h6 : l.length ≤ 6) (r : Int) (l' : List PE)
 (hM : FnO prog 133 [.ref 0 0, qc pt, .agg ((ntC (a, b)).map AV.p)] (mvR key port l) (mvW key port l l') (qd r)) :
 FnO prog 93 [.ref 0 0, qc pt, .agg (sA 10 t n a b)] ((3, .un) :: (4, .un) :: (5, .un) :: mvR key port l) (oN pt t n a b ++ mvW key port l l') (.tup [qc pt, qd r]) := by
 have h7 : l.length < 7 := qk
 have hnd : (((3, Slot.un) :: (4, .un) :: (5, .un) :: mvR key port l).map Prod.fst).Nodup := by rw [qaF, qaF, qaF, zf2]; exact mvN_nd4 _ h7
 have hG := zhm 10 t n a b qw qw qw
 have hP := peerT_s key port l ok pt _ _ (pcs_V (fun i => i + 1000) l 0) (zet _ _ _) (by rw [zfA]; exact mvN_nd3 _ h7) hpt hJ
 show FnO prog 93 [.ref 0 0, qc pt, .agg [qd 10, qc t, qd n, qe a, qd b]] _ _ _
 refine fnIO fun w0 A heap => ?_
 have hall := zbU (h := heap) hnd
 have er : ∀ o, o ∉ mvN l.length → o ≠ 3 → o ≠ 4 → o ≠ 5 → updL heap ((3, .un) :: (4, .un) :: (5, .un) :: mvR key port l) o = heap o := fun o ho a1 a2 a3 => zaz (by
  rw [qaF, qaF, qaF, zf2]
  simp only [qaI, not_or]
  exact ⟨a1, a2, a3, ho⟩)
 obtain ⟨H, hH⟩ : ∃ H, updL heap ((3, .un) :: (4, .un) :: (5, .un) :: mvR key port l) = H := ⟨_, rfl⟩
 rw [hH] at hall er ⊢
 have e3 : H 3 = .un := hall (3, .un) qz
 have e4 : H 4 = .un := hall (4, .un) qz
 have e5 : H 5 = .un := hall (5, .un) qz
 have eM : ∀ p ∈ mvR key port l, H p.1 = p.2 := fun p hp => hall p qar
 clear hH hnd hall
 refine G [2] ?_
 refine zab (a_box (X := .p _) 4 rfl) rfl rfl ⟨e4, trivial⟩ ?_
 refine zab (a_box (X := .agg _) 5 rfl) rfl rfl ⟨e5, trivial⟩ ?_
 refine G [8] ?_
 refine zaK hG rfl rfl F128 rfl rfl ⟨e3, trivial⟩ rfl ?_
 refine G [6] ?_
 obtain ⟨GV, hGd⟩ : ∃ GV : Nat → Slot, GV = updL (updL (updL H [(4, .live (.box 9 [qc pt]))]) [(5, .live (.box 107 (sA 10 t n a b)))]) [(3, .live (.box 107 (sA 10 t n a b)))] := ⟨_, rfl⟩
 have g3 : GV 3 = .live (.box 107 (sA 10 t n a b)) := by rw [hGd]; rfl
 have g4 : GV 4 = .live (.box 9 [qc pt]) := by rw [hGd]; rfl
 have g5 : GV 5 = .live (.box 107 (sA 10 t n a b)) := by rw [hGd]; rfl
 have ne : ∀ o, o ≠ 3 → o ≠ 4 → o ≠ 5 → GV o = H o := fun o a1 a2 a3 => by rw [hGd]; simp only [updL, nbeq a1, nbeq a2, nbeq a3, cond_false]
 have gM : ∀ p ∈ mvR key port l, GV p.1 = p.2 := fun p hp => by
  have hm : p.1 ∈ mvN l.length := by rw [← zf2 key port l]; exact qaJ.2 ⟨p, hp, rfl⟩
  rw [zbZ] at hm
  exact (ne p.1 qk qk qk).trans (eM p hp)
 have gr : ∀ o, o ∉ mvN l.length → o ≠ 3 → o ≠ 4 → o ≠ 5 → GV o = heap o := fun o ho a1 a2 a3 => (ne o a1 a2 a3).trans (er o ho a1 a2 a3)
 refine zbd (zdz [(0, .ref 0 0), (4, .ref 4 0), (5, .ref 5 0), (8, qf false), (9, qd 0)] GV qE (fun o => .inl (by rw [hGd]; rfl))) ?_
 clear eM e3 e4 e5 er ne
 unfold sA at g5
 have hall7 : ∀ p ∈ (0, D0 key port) :: (1, Slot.live (.rowA 48 5 l.length none (pcs (fun i => i + 1000) 0 l))) :: fams (fun i => i + 1000) 0 l, GV p.1 = p.2 := fun p hp => gM p (by
  unfold mvR
  rcases qaI.1 hp with rfl | hp
  ·simp
  rcases qaI.1 hp with rfl | hp
  ·simp
  ·simp [hp])
 have hself := zd9 hall7
 refine G [10] ?_
 refine zab (zbq U3 rfl rfl) rfl rfl ⟨g5, trivial⟩ ?_
 (first | refine zaa zbC rfl rfl ?_ | refine zaa za9 rfl rfl ?_)
 refine G [6] ?_
 refine zab (zbq U9 rfl rfl) rfl rfl ⟨g4, trivial⟩ ?_
 refine zaK hP rfl rfl F130 rfl rfl (zc1 hall7) rfl ?_
 refine G [6] ?_
 refine zbd (zdz [(0, .ref 0 0), (4, .ref 4 0), (5, .ref 5 0), (10, .ref 1 (peN pt l * 5)), (11, qd 0)] GV qE (fun o => .inl (congrFun hself o))) ?_
 refine jcM ?_
 refine G [10] ?_
 refine zab (zbq U3 rfl rfl) rfl rfl ⟨g5, trivial⟩ ?_
 refine G [4] ?_
 (first | refine zaa zbC rfl rfl ?_ | refine zaa za9 rfl rfl ?_)
 refine G [5] ?_
 (first | refine zaa zbC rfl rfl ?_ | refine zaa za9 rfl rfl ?_)
 refine G [5] ?_
 (first | refine zaa zbC rfl rfl ?_ | refine zaa za9 rfl rfl ?_)
 refine G [5] ?_
 (first | refine zaa zbC rfl rfl ?_ | refine zaa za9 rfl rfl ?_)
 refine G [5] ?_
 (first | refine zaa zbC rfl rfl ?_ | refine zaa za9 rfl rfl ?_)
 refine G [5, 1, 3] ?_
 have hf1 := zf2 key port l
 have hf2 := zeY key port l l'
 have hndW : ((mvW key port l l').map Prod.fst).Nodup := by rw [zeY]; exact mvN_nd _ h7
 have hrest : ∀ o, ((oN pt t n a b ++ mvW key port l l').any fun p => Nat.beq o p.1) = false → updL GV (mvW key port l l') o = heap o := fun o ho => by
  rw [List.any_append, qbB] at ho
  have h1 : o ∉ mvN l.length := fun hm => by
   rw [← hf2] at hm
   obtain ⟨p, hp, rfl⟩ := qaJ.1 hm
   have := List.any_eq_false.1 ho.2 p hp
   simp at this
  have h2 := ho.1
  simp only [oN, List.any_cons, List.any_nil, Bool.or_false, qbB] at h2
  rw [zaz (by rw [hf2]; exact h1)]
  exact gr o h1 (fun e => by subst e; simp at h2) (fun e => by subst e; simp at h2) (fun e => by subst e; simp at h2)
 have hrds : ∀ p ∈ oN pt t n a b ++ mvW key port l l', updL GV (mvW key port l l') p.1 = p.2 := fun p hp => by
  rcases qaW.1 hp with hp | hp
  ·have hno : ∀ o, o = 3 ∨ o = 4 ∨ o = 5 → updL GV (mvW key port l l') o = GV o := fun o ho => zaz (by rw [hf2, zbZ]; omega)
   simp only [oN, qaI, qbr, or_false] at hp
   rcases hp with rfl | rfl | rfl
   ·exact (hno 3 qk).trans g3
   ·exact (hno 4 qk).trans g4
   ·exact (hno 5 qk).trans g5
  ·exact zbU hndW p hp
 clear hall7 hself gr hP hndW
 obtain ⟨N, hN⟩ : ∃ N, l.length = N := ⟨_, rfl⟩
 rw [hN] at hf1 hf2 h6
 have hN6 : N = 0 ∨ N = 1 ∨ N = 2 ∨ N = 3 ∨ N = 4 ∨ N = 5 ∨ N = 6 := qk
 rcases hN6 with rfl | rfl | rfl | rfl | rfl | rfl | rfl
 all_goals
  (repeat (first | refine zan ?_ | refine zax ?_ | refine zay ?_ | refine zaB ?_ | refine zaG ?_ | refine zaE ?_ | refine zbs ?_ | refine zbA ?_ | refine zb6 ?_ | refine zb1 ?_ | refine zb0 ?_ | refine zcM rfl ?_))
  refine zfE 4 qm ?_
  refine zab (zbq U9 rfl rfl) rfl rfl ⟨g4, trivial⟩ ?_
  refine jdY (zaI (r := .ref _ _)) ?_
  refine zab (zbq U9 rfl rfl) rfl rfl ⟨g4, trivial⟩ ?_
  refine fA fi107_3 rfl rfl ?_
  refine zab (zaf (es := (ntC (a, b)).map AV.p) U82 rfl sz82 (qaA rfl) rfl) rfl rfl ⟨g5, trivial⟩ ?_
  refine r_callO1 hM rfl rfl func133 rfl rfl (zc1 gM) rfl hf1 hf2 ?_
  refine G [3] ?_
  (repeat (first | refine zan ?_ | refine zax ?_ | refine zay ?_ | refine zaB ?_ | refine zaG ?_ | refine zaE ?_ | refine zbs ?_ | refine zbA ?_ | refine zb6 ?_ | refine zb1 ?_ | refine zb0 ?_ | refine zcM rfl ?_))
  refine ⟨qI, ⟨_, (.tmp _ _ _ _ rfl (.tmp _ _ _ _ rfl .nil)), ?_⟩, ?_, ?_⟩
  ·exact rfl
  ·exact zc1 hrds
  ·exact hrest
end Go.Proofs.YtlfjpippeeikdaaGreatDoor
