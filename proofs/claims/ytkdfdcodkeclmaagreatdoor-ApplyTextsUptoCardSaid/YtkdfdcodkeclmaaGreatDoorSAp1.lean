/- apply's inner functions, over data: a configuration of one's own, whose nets are shared. -/
import Derived.Test.YtkdfdcodkeclmaaGreatDoorSBs1
namespace Go.Proofs.YtkdfdcodkeclmaaGreatDoor
open Tryz
open Go.RowKit Go.Sort
set_option linter.unusedVariables false
set_option linter.unusedSimpArgs false
set_option maxRecDepth 100000
def pkV (k : PK) : List Value := [.string k.1, k.2.1, k.2.2.1, k.2.2.2.1, k.2.2.2.2]
theorem vs_pk (ks : List PK) : vs (ks.flatMap pkV) = ks.flatMap pkC := by
 unfold vs
 rw [List.map_flatMap]
 rfl
inductive PKR (S : Nat → Prop) (w : World) : List PE → List PK → Prop
 | nil : PKR S w [] []
 | cons (p : PE) (k : PK) (l : List PE) (ks : List PK) : p.key = k.1 → PRepL S w p.pv (pkV k) → PKR S w l ks → PKR S w (p :: l) (k :: ks)
theorem pkr_of {S : Nat → Prop} {w : World} : ∀ {l : List PE} {us : List Value}, PRepL S w (l.flatMap PE.pv) us → ∃ ks, PKR S w l ks ∧ us = ks.flatMap pkV
 | [], us, h => ⟨[], .nil, by simpa [PRepL] using h⟩
 | p :: l, us, h => by
  simp only [List.flatMap_cons, PE.pv, List.cons_append, List.nil_append, PRepL] at h
  obtain ⟨u0, _, rfl, h0, u1, _, rfl, h1, u2, _, rfl, h2, u3, _, rfl, h3, u4, us, rfl, h4, h5⟩ := h
  obtain ⟨ks, k1, rfl⟩ := pkr_of h5
  have h0' := h0
  simp only [PRep] at h0'
  obtain ⟨rfl, _⟩ := h0'
  refine ⟨(p.key, u1, u2, u3, u4) :: ks, .cons p _ l ks rfl ?_ k1, rfl⟩
  simp only [PE.pv, pkV, PRepL]
  exact ⟨_, _, rfl, h0, _, _, rfl, h1, _, _, rfl, h2, _, _, rfl, h3, _, _, rfl, h4, rfl⟩
theorem PKR.rep {S : Nat → Prop} {w : World} {l : List PE} {ks : List PK} (h : PKR S w l ks) : PRepL S w (l.flatMap PE.pv) (ks.flatMap pkV) := by
 induction h with
 | nil => simp [PRepL]
 | cons p k l ks h1 h2 _ ih =>
  rw [List.flatMap_cons, List.flatMap_cons]
  exact h2.append ih
theorem PKR.len {S : Nat → Prop} {w : World} {l : List PE} {ks : List PK} (h : PKR S w l ks) : ks.length = l.length := by
 induction h with
 | nil => rfl
 | cons p k l ks h1 h2 _ ih => simp [ih]
theorem PKR.take {S : Nat → Prop} {w : World} {l : List PE} {ks : List PK} (h : PKR S w l ks) : ∀ i, PKR S w (l.take i) (ks.take i) := by
 induction h with
 | nil => intro i; simpa using PKR.nil
 | cons p k l ks h1 h2 _ ih =>
  intro i
  cases i with
  | zero => exact .nil
  | succ i => exact .cons _ _ _ _ h1 h2 (ih i)
theorem PKR.drop {S : Nat → Prop} {w : World} {l : List PE} {ks : List PK} (h : PKR S w l ks) : ∀ i, PKR S w (l.drop i) (ks.drop i) := by
 induction h with
 | nil => intro i; simpa using PKR.nil
 | cons p k l ks h1 h2 h3 ih =>
  intro i
  cases i with
  | zero => exact .cons _ _ _ _ h1 h2 h3
  | succ i => exact ih i
theorem PKR.append {S : Nat → Prop} {w : World} {l l' : List PE} {ks ks' : List PK} (h : PKR S w l ks) (h' : PKR S w l' ks') : PKR S w (l ++ l') (ks ++ ks') := by
 induction h with
 | nil => exact h'
 | cons p k l ks h1 h2 _ ih => exact .cons _ _ _ _ h1 h2 ih
theorem PKR.filter {S : Nat → Prop} {w : World} {l : List PE} {ks : List PK} (q : ByteArray → Bool) (h : PKR S w l ks) : PKR S w (l.filter fun p => q p.key) (ks.filter fun k => q k.1) := by
 induction h with
 | nil => exact .nil
 | cons p k l ks h1 h2 _ ih =>
  simp only [List.filter_cons, h1]
  split
  ·exact .cons _ _ _ _ h1 h2 ih
  ·exact ih
def newP (k : ByteArray) : PE := ⟨k, ⟨#[]⟩, ⟨#[]⟩, 0, []⟩
def newK (k : ByteArray) : PK := (k, .string ⟨#[]⟩, .string ⟨#[]⟩, .int .i64 0, .slice none 0 0)
theorem new_rep (S : Nat → Prop) (w : World) (k : ByteArray) : PRepL S w (newP k).pv (pkV (newK k)) := by
 simp [newP, newK, PE.pv, pkV, PRepL, PRep, Value.oneCell']
 exact ⟨_, _, ⟨rfl, rfl⟩, rfl, _, _, rfl, rfl, _, _, rfl, rfl, _, _, rfl, rfl, _, rfl, _, _, rfl⟩
def delK (k : ByteArray) (l : List PE) : List PE := l.filter fun p => !decide (p.key = k)
theorem rmP_c (l : List PE) (k : ByteArray) (hn : l.length ≤ 1048576) (S : Nat → Prop) (w : World) (us : List Value) (h : PRepL S w (l.flatMap PE.pv) us) :
  ∃ us', PRepL S w ((delK k l).flatMap PE.pv) us' ∧ FnR prog 52 (.row 0 :: [.fn 53 [.ptr [.v (.string k)]]]) [(0, .row 60 5 l.length (vs us))] (.row 1) [(1, .row 60 5 (delK k l).length (vs us'))] := by
 obtain ⟨ks, h1, rfl⟩ := pkr_of h
 have h2 := h1.filter fun x => !decide (x = k)
 refine ⟨_, h2.rep, ?_⟩
 have h3 := delP_s ks k (by rw [h1.len]; exact hn)
 rw [vs_pk, vs_pk]
 rw [h1.len] at h3
 have h4 := h2.len
 rw [h4] at h3
 exact h3
theorem inP_c (l : List PE) (k : ByteArray) (i : Nat) (hi : i ≤ l.length) (hn : l.length ≤ 1048576) (S : Nat → Prop) (w : World) (us : List Value) (h : PRepL S w (l.flatMap PE.pv) us) :
  ∃ us', PRepL S w ((l.take i ++ newP k :: l.drop i).flatMap PE.pv) us' ∧ FnR prog 83 [.row 0, .p (.v (.int .i64 i)), .psl 1 0 1 5] [(0, .row 60 5 l.length (vs us)), (1, .box 60 ((pkC (newK k)).map AV.p))] (.row 2) [(2, .row 60 5 (l.length + 1) (vs us'))] := by
 obtain ⟨ks, h1, rfl⟩ := pkr_of h
 have h2 := (h1.take i).append (PKR.cons (newP k) (newK k) _ _ rfl (new_rep S w k) (h1.drop i))
 refine ⟨_, h2.rep, ?_⟩
 have h3 := insP_s ks (newK k) i (by rw [h1.len]; exact hi) (by rw [h1.len]; exact hn)
 rw [vs_pk, vs_pk]
 rw [h1.len] at h3
 exact h3
theorem vs_of {S : Nat → Prop} {w : World} : ∀ {ps : List PV} {us : List Value}, ps.all PV.isV = true → PRepL S w ps us → vs us = ps
 | [], us, _, h => by simp only [PRepL] at h; subst h; rfl
 | p :: ps, us, hv, h => by
  simp only [PRepL] at h
  obtain ⟨u, us, rfl, h1, h2⟩ := h
  simp only [List.all_cons, Bool.and_eq_true] at hv
  cases p with
  | v x =>
   simp only [PRep] at h1
   rw [h1.1]
   have := vs_of hv.2 h2
   simp only [vs, List.map_cons] at this ⊢
   rw [this]
  | sl n s cs => simp [PV.isV] at hv
  | pt cs => simp [PV.isV] at hv
def ntV (n : NtP) : List Value := [.int .u32 n.1, .int .i64 n.2]
theorem vs_nt (l : List NtP) : vs (l.flatMap ntV) = l.flatMap ntC := by
 unfold vs
 rw [List.map_flatMap]
 rfl
theorem nt_isV (l : List NtP) : (l.flatMap ntC).all PV.isV = true := by
 induction l with
 | nil => rfl
 | cons n l ih => rw [List.flatMap_cons, List.all_append, ih]; rfl
theorem nt_rep (S : Nat → Prop) (w : World) (l : List NtP) : PRepL S w (l.flatMap ntC) (l.flatMap ntV) := by
 rw [← vs_nt]
 refine vs_rep fun x hx => ?_
 obtain ⟨n, _, hn⟩ := List.mem_flatMap.1 hx
 simp only [ntV, List.mem_cons, List.not_mem_nil, or_false] at hn
 rcases hn with rfl | rfl <;> rfl
def delN (n : NtP) (l : List NtP) : List NtP := l.filter fun m => !decide (m = n)
theorem rmN_c (l : List NtP) (n : NtP) (hn : l.length ≤ 1048576) (S : Nat → Prop) (w : World) (us : List Value) (h : PRepL S w (l.flatMap ntC) us) :
  ∃ us', PRepL S w ((delN n l).flatMap ntC) us' ∧ FnR prog 85 (.row 0 :: [.fn 86 [.ptr (ntC n)]]) [(0, .row 27 2 l.length (vs us))] (.row 1) [(1, .row 27 2 (delN n l).length (vs us'))] := by
 refine ⟨_, nt_rep S w _, ?_⟩
 rw [vs_nt, vs_of (nt_isV l) h]
 exact delN_s l n hn
theorem inN_c (l : List NtP) (x : NtP) (i : Nat) (hi : i ≤ l.length) (hn : l.length ≤ 1048576) (S : Nat → Prop) (w : World) (us : List Value) (h : PRepL S w (l.flatMap ntC) us) :
  ∃ us', PRepL S w ((l.take i ++ x :: l.drop i).flatMap ntC) us' ∧ FnR prog 88 [.row 0, .p (.v (.int .i64 i)), .psl 1 0 1 2] [(0, .row 27 2 l.length (vs us)), (1, .box 27 ((ntC x).map AV.p))] (.row 2) [(2, .row 27 2 (l.length + 1) (vs us'))] := by
 refine ⟨_, nt_rep S w _, ?_⟩
 rw [vs_nt, vs_of (nt_isV l) h]
 exact insN_s l x i hi hn
theorem peerNo_s (key : ByteArray) (port : Int) (l : List PE) (ok : CF.OK ⟨key, port, l⟩) (pt : ByteArray) (h : pt = ⟨#[]⟩ ∨ ¬ peN pt l < l.length) : FnO prog 51 [.ref 0 0, .p (.v (.string pt))] [(0, .live (.box 24 [.p (.v (.string key)), .p (.v (.int .i64 port)), .row 1])), (1, .live (.row 60 5 l.length (l.flatMap PE.pv)))] [(0, .live (.box 24 [.p (.v (.string key)), .p (.v (.int .i64 port)), .row 1])), (1, .live (.row 60 5 l.length (l.flatMap PE.pv)))] (.tup [.p (.v (.pointer none)), .p (.v (.int .i64 13))]) := by
 have hF := ze6 ⟨key, port, l⟩ ok pt
 change Fn prog _ [.agg (cfC key port l.length (l.flatMap PE.pv)), _] (if peN pt l < l.length then _ else _) _ at hF
 have hn := ok.len
 dsimp only at hn
 by_cases h1 : peN pt l < l.length
 ·have h0 : pt = ⟨#[]⟩ := h.resolve_right (fun h2 => h2 h1)
  rw [if_pos h1] at hF
  generalize l.flatMap PE.pv = L at *
  refine fnIO fun w0 A heap => ?_
  refine G [11] ?_
  refine cV hF ?_
  refine G [10] ?_
  refine zaa (zah (c := true) (by simp [h0])) rfl rfl ?_
  refine mP rfl rfl ?_
  (first | refine mP rfl rfl ?_ | refine za1 rfl ?_)
  (first | refine zaa a_neq rfl rfl ?_ | refine za1 rfl ?_)
  (first | refine zaa zf5 rfl rfl ?_ | refine zaa zf4 rfl rfl ?_)
  refine G [8, 9, 0] ?_
  refine ⟨(by first | exact .inl rfl | exact .inr rfl), ⟨_, (.tmp _ _ _ _ rfl (.tmp _ _ _ _ rfl .nil)), ?_⟩, ?_, ?_⟩
  ·exact rfl
  ·(repeat (first | exact trivial | refine ⟨rfl, ?_⟩))
  ·(intro o ho; simp only [List.any_cons, List.any_nil, Bool.or_false, Bool.or_eq_false_iff] at ho; simp [St.put, St.upd, updL, zaR, ho])
 ·rw [if_neg h1] at hF
  generalize l.flatMap PE.pv = L at *
  refine fnIO fun w0 A heap => ?_
  refine G [11] ?_
  refine cV hF ?_
  refine G [6] ?_
  by_cases h0 : pt = ⟨#[]⟩
  ·refine G [4] ?_
   refine zaa (zah (c := true) (by simp [h0])) rfl rfl ?_
   refine G [12, 9, 0] ?_
   refine ⟨(by first | exact .inl rfl | exact .inr rfl), ⟨_, (.tmp _ _ _ _ rfl (.tmp _ _ _ _ rfl .nil)), ?_⟩, ?_, ?_⟩
   ·exact rfl
   ·(repeat (first | exact trivial | refine ⟨rfl, ?_⟩))
   ·(intro o ho; simp only [List.any_cons, List.any_nil, Bool.or_false, Bool.or_eq_false_iff] at ho; simp [St.put, St.upd, updL, zaR, ho])
  ·refine G [4] ?_
   refine zaa (zah (c := false) (by simp [h0])) rfl rfl ?_
   refine G [12, 9, 0] ?_
   refine ⟨(by first | exact .inl rfl | exact .inr rfl), ⟨_, (.tmp _ _ _ _ rfl (.tmp _ _ _ _ rfl .nil)), ?_⟩, ?_, ?_⟩
   ·exact rfl
   ·(repeat (first | exact trivial | refine ⟨rfl, ?_⟩))
   ·(intro o ho; simp only [List.any_cons, List.any_nil, Bool.or_false, Bool.or_eq_false_iff] at ho; simp [St.put, St.upd, updL, zaR, ho])
theorem zeg (key : ByteArray) (port : Int) (l : List PE) (ok : CF.OK ⟨key, port, l⟩) (pt : ByteArray) (h0 : pt ≠ ⟨#[]⟩) (h1 : peN pt l < l.length) : FnO prog 51 [.ref 0 0, .p (.v (.string pt))] [(0, .live (.box 24 [.p (.v (.string key)), .p (.v (.int .i64 port)), .row 1])), (1, .live (.row 60 5 l.length (l.flatMap PE.pv)))] [(0, .live (.box 24 [.p (.v (.string key)), .p (.v (.int .i64 port)), .row 1])), (1, .live (.row 60 5 l.length (l.flatMap PE.pv)))] (.tup [.ref 1 (peN pt l * 5), .p (.v (.int .i64 0))]) := by
 have hF := ze6 ⟨key, port, l⟩ ok pt
 change Fn prog _ [.agg (cfC key port l.length (l.flatMap PE.pv)), _] (if peN pt l < l.length then _ else _) _ at hF
 have hn := ok.len
 dsimp only at hn
 rw [if_pos h1] at hF
 generalize l.flatMap PE.pv = L at *
 generalize peN pt l = N at *
 refine fnIO fun w0 A heap => ?_
 refine G [11] ?_
 refine cV hF ?_
 refine G [10] ?_
 refine zaa (zah (c := false) (by simp [h0])) rfl rfl ?_
 refine G [2, 1, 11] ?_
 refine zac (zai U22 sz60 (by omega) (by omega) (by first | (simp only [Int.toNat_natCast, Nat.mul_one, Nat.zero_add]; rfl) | rfl)) rfl rfl ⟨rfl, trivial⟩ ?_
 refine G [4] ?_
 refine ⟨(by first | exact .inl rfl | exact .inr rfl), ⟨_, (.tmp _ _ _ _ rfl (.tmp _ _ _ _ rfl .nil)), ?_⟩, ?_, ?_⟩
 ·exact rfl
 ·(repeat (first | exact trivial | refine ⟨rfl, ?_⟩))
 ·(intro o ho; simp only [List.any_cons, List.any_nil, Bool.or_false, Bool.or_eq_false_iff] at ho; simp [St.put, St.upd, updL, zaR, ho])
theorem pickOwn_s (key : ByteArray) (port : Int) (l : List PE) (ok : CF.OK ⟨key, port, l⟩) : FnO prog 50 [.ref 0 0, .p (.v (.string key))] [(0, .live (.box 24 [.p (.v (.string key)), .p (.v (.int .i64 port)), .row 1])), (1, .live (.row 60 5 l.length (l.flatMap PE.pv)))] [(0, .live (.box 24 [.p (.v (.string key)), .p (.v (.int .i64 port)), .row 1])), (1, .live (.row 60 5 l.length (l.flatMap PE.pv)))] (.p (.v (.int .i64 14))) := by
 clear ok
 generalize l.flatMap PE.pv = L at *
 refine fnIO fun w0 A heap => ?_
 refine G [12] ?_
 refine zaa (zah (c := true) (by simp)) rfl rfl ?_
 refine G [7, 9, 0] ?_
 refine ⟨(by first | exact .inl rfl | exact .inr rfl), ⟨_, (.tmp _ _ _ _ rfl .nil), ?_⟩, ?_, ?_⟩
 ·exact rfl
 ·(repeat (first | exact trivial | refine ⟨rfl, ?_⟩))
 ·(intro o ho; simp only [List.any_cons, List.any_nil, Bool.or_false, Bool.or_eq_false_iff] at ho; simp [St.put, St.upd, updL, zaR, ho])
theorem pickOld_s (key : ByteArray) (port : Int) (l : List PE) (ok : CF.OK ⟨key, port, l⟩) (k : ByteArray) (h0 : k ≠ key) (h1 : peN k l < l.length) : FnO prog 50 [.ref 0 0, .p (.v (.string k))] [(0, .live (.box 24 [.p (.v (.string key)), .p (.v (.int .i64 port)), .row 1])), (1, .live (.row 60 5 l.length (l.flatMap PE.pv)))] [(0, .live (.box 24 [.p (.v (.string key)), .p (.v (.int .i64 port)), .row 1])), (1, .live (.row 60 5 l.length (l.flatMap PE.pv)))] (.p (.v (.int .i64 0))) := by
 have hF := ze6 ⟨key, port, l⟩ ok k
 change Fn prog _ [.agg (cfC key port l.length (l.flatMap PE.pv)), _] (if peN k l < l.length then _ else _) _ at hF
 rw [if_pos h1] at hF
 generalize l.flatMap PE.pv = L at *
 refine fnIO fun w0 A heap => ?_
 refine G [12] ?_
 refine zaa (zah (c := false) (by simp [h0])) rfl rfl ?_
 refine G [10] ?_
 refine cV hF ?_
 refine G [9, 1, 7, 9, 0] ?_
 refine ⟨(by first | exact .inl rfl | exact .inr rfl), ⟨_, (.tmp _ _ _ _ rfl .nil), ?_⟩, ?_, ?_⟩
 ·exact rfl
 ·(repeat (first | exact trivial | refine ⟨rfl, ?_⟩))
 ·(intro o ho; simp only [List.any_cons, List.any_nil, Bool.or_false, Bool.or_eq_false_iff] at ho; simp [St.put, St.upd, updL, zaR, ho])
theorem pickFull_s (key : ByteArray) (port : Int) (l : List PE) (ok : CF.OK ⟨key, port, l⟩) (k : ByteArray) (h0 : k ≠ key) (h1 : ¬ peN k l < l.length) (h2 : l.length = 6) : FnO prog 50 [.ref 0 0, .p (.v (.string k))] [(0, .live (.box 24 [.p (.v (.string key)), .p (.v (.int .i64 port)), .row 1])), (1, .live (.row 60 5 l.length (l.flatMap PE.pv)))] [(0, .live (.box 24 [.p (.v (.string key)), .p (.v (.int .i64 port)), .row 1])), (1, .live (.row 60 5 l.length (l.flatMap PE.pv)))] (.p (.v (.int .i64 7))) := by
 have hF := ze6 ⟨key, port, l⟩ ok k
 change Fn prog _ [.agg (cfC key port l.length (l.flatMap PE.pv)), _] (if peN k l < l.length then _ else _) _ at hF
 rw [if_neg h1] at hF
 generalize l.flatMap PE.pv = L at *
 refine fnIO fun w0 A heap => ?_
 refine G [12] ?_
 refine zaa (zah (c := false) (by simp [h0])) rfl rfl ?_
 refine G [10] ?_
 refine cV hF ?_
 refine G [20] ?_
 refine zac (zaG U22) rfl rfl ⟨rfl, trivial⟩ ?_
 refine zaa (zaA (c := true) (by simp [h2])) rfl rfl ?_
 refine G [7, 9, 0] ?_
 refine ⟨(by first | exact .inl rfl | exact .inr rfl), ⟨_, (.tmp _ _ _ _ rfl .nil), ?_⟩, ?_, ?_⟩
 ·exact rfl
 ·(repeat (first | exact trivial | refine ⟨rfl, ?_⟩))
 ·(intro o ho; simp only [List.any_cons, List.any_nil, Bool.or_false, Bool.or_eq_false_iff] at ho; simp [St.put, St.upd, updL, zaR, ho])
theorem pickNew_s (key : ByteArray) (port : Int) (l : List PE) (ok : CF.OK ⟨key, port, l⟩) (k : ByteArray) (h0 : k ≠ key) (h1 : ¬ peN k l < l.length) (h2 : l.length ≠ 6) (p : Nat) (hp : p ≤ l.length) (hlo : ∀ u, u < p → (hu : u < l.length) → sLt l[u].key k = true) (hhi : ∀ u, p ≤ u → (hu : u < l.length) → ¬ sLt l[u].key k = true) :
  FnO prog 50 [.ref 0 0, .p (.v (.string k))] [(0, .live (.box 24 [.p (.v (.string key)), .p (.v (.int .i64 port)), .row 1])), (1, .live (.row 60 5 l.length (l.flatMap PE.pv))), (48, .un), (49, .un)] [(0, .live (.box 24 [.p (.v (.string key)), .p (.v (.int .i64 port)), .row 49])), (1, .dead), (48, .dead), (49, .live (.row 60 5 (l.length + 1) ((l.take p ++ newP k :: l.drop p).flatMap PE.pv)))] (.p (.v (.int .i64 0))) := by
 have hF := ze6 ⟨key, port, l⟩ ok k
 change Fn prog _ [.agg (cfC key port l.length (l.flatMap PE.pv)), _] (if peN k l < l.length then _ else _) _ at hF
 rw [if_neg h1] at hF
 have hn := ok.len
 dsimp only at hn
 obtain ⟨fb, hB⟩ := bsP_s l k p hn hp (fun u h3 hu => (cmpB_lt _ _).2 (hlo u h3 hu)) (fun u h3 hu h4 => hhi u h3 hu ((cmpB_lt _ _).1 h4))
 have hI := inP_c l k p hp hn
 clear hlo hhi
 generalize (l.take p ++ newP k :: l.drop p).flatMap PE.pv = L' at *
 generalize l.flatMap PE.pv = L at *
 refine fnIO fun w0 A heap => ?_
 refine G [12] ?_
 refine zaa (zah (c := false) (by simp [h0])) rfl rfl ?_
 refine G [10] ?_
 refine cV hF ?_
 refine G [20] ?_
 refine zac (zaG U22) rfl rfl ⟨rfl, trivial⟩ ?_
 refine zaa (zaA (c := false) (by simp; omega)) rfl rfl ?_
 refine G [10] ?_
 refine cV hB ?_
 refine G [16] ?_
 refine zac (zdg 48 U22 sz60 zc60 (Nat.le_of_ble_eq_true rfl) (Nat.le_of_ble_eq_true rfl) rfl rfl (Nat.le_of_ble_eq_true rfl)) rfl rfl ⟨rfl, trivial⟩ ?_
 refine zac (a_callR2 (o' := 49) (n := l.length) (n' := l.length + 1) (qs := L') func83 rfl rfl rfl rfl (by decide) hI) rfl rfl ⟨rfl, rfl, rfl, trivial⟩ ?_
 refine G [2] ?_
 refine zac (za9 (Y := .row _) sz22 rfl (by first | exact Nat.eq_of_beq_eq_true rfl | (simp only [AV.cells, List.length_map]; first | assumption | omega)) (by first | exact Nat.le_of_ble_eq_true rfl | omega | (simp only [AV.cells, List.length_map]; omega)) (by first | (simp only [setR, AV.cells, List.take_succ_cons, List.take_zero, List.drop_succ_cons, List.drop_zero, List.drop_nil, List.take_nil, List.nil_append, List.cons_append, List.append_nil, List.length_cons, List.length_nil, Nat.reduceAdd, Nat.zero_add, Nat.add_zero]; rfl) | rfl)) rfl rfl ⟨rfl, trivial⟩ ?_
 refine G [6] ?_
 refine ⟨(by first | exact .inl rfl | exact .inr rfl), ⟨_, (.tmp _ _ _ _ rfl .nil), ?_⟩, ?_, ?_⟩
 ·exact rfl
 ·(repeat (first | exact trivial | refine ⟨rfl, ?_⟩))
 ·(intro o ho; simp only [List.any_cons, List.any_nil, Bool.or_false, Bool.or_eq_false_iff] at ho; simp [St.put, St.upd, updL, zaR, ho])
end Go.Proofs.YtkdfdcodkeclmaaGreatDoor
