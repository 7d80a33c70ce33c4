/- Used. -/
import Derived.Test.YtlfjpippeeikdaaGreatDoorSMa2
import Derived.Deep.Slices
import Derived.SizedLaws
import Derived.Laws.CopyRow
import Derived.Test.YtlfjpippeeikdaaGreatDoorProg
set_option linter.all false
namespace Go.Proofs.YtlfjpippeeikdaaGreatDoor
open Go.RowKit
open Go.Sort
def Ty (P : Program) : Nat → TypeId → List PV → Prop
 | 0, _, _ => False
 | n + 1, t, ps => match P.underlying t with
  | some .bool => ∃ b, ps = [.v (.bool b)]
  | some (.int k) => ∃ i, ps = [.v (.int k i)] ∧ (Lit.int k i).wf = true
  | some .string => ∃ s, ps = [.v (.string s)] ∧ s.size ≤ reachBytes
  | some (.slice e) => ∃ L : List (List PV), ps = [.sl L.length (P.cellsOf e) L.flatten] ∧ (L.length ≤ maxLen ∧ L.length * P.bytesOf e ≤ reachBytes) ∧ ∀ x ∈ L, Ty P n e x ∧ x.length = P.cellsOf e
  | some (.struct fs) => ∃ L : List (List PV), ps = L.flatten ∧ L.length = fs.size ∧ ∀ (i : Nat) (f : Field) x, fs[i]? = some f → L[i]? = some x → Ty P n f.type x ∧ x.length = P.cellsOf f.type
  | some (.array m e) => ∃ L : List (List PV), ps = L.flatten ∧ L.length = m ∧ ∀ x ∈ L, Ty P n e x ∧ x.length = P.cellsOf e
  | _ => False
mutual
def PV.bd (N : Nat) : PV → Prop
 | .v x => match x with
  | .string s => s.size ≤ N
  | _ => True
 | .sl n _ cs => n ≤ N ∧ PV.bdL N cs
 | .pt cs => PV.bdL N cs
def PV.bdL (N : Nat) : List PV → Prop
 | [] => True
 | c :: cs => c.bd N ∧ PV.bdL N cs
end
theorem zhW {N : Nat} : ∀ {l : List PV}, PV.bdL N l ↔ ∀ x ∈ l, x.bd N
 | [] => by simp [PV.bdL]
 | c :: l => by simp [PV.bdL, zhW (l := l)]
mutual
theorem bd_mono {N M : Nat} (h : N ≤ M) : ∀ x : PV, x.bd N → x.bd M
 | .v x, k => by
  simp only [PV.bd] at k ⊢
  split at k
  ·exact qcd k h
  ·trivial
 | .sl n _ cs, k => by simp only [PV.bd] at k ⊢; exact ⟨qcd k.1 h, zcW h cs k.2⟩
 | .pt cs, k => by simp only [PV.bd] at k ⊢; exact zcW h cs k
theorem zcW {N M : Nat} (h : N ≤ M) : ∀ l : List PV, PV.bdL N l → PV.bdL M l
 | [], _ => by simp [PV.bdL]
 | c :: l, k => by simp only [PV.bdL] at k ⊢; exact ⟨bd_mono h c k.1, zcW h l k.2⟩
end
theorem zjj {N : Nat} {L : List (List PV)} (h : ∀ x ∈ L, PV.bdL N x) : PV.bdL N L.flatten := by
 rw [zhW]
 intro x hx
 obtain ⟨l, h1, h2⟩ := List.mem_flatten.1 hx
 exact zhW.1 (h l h1) x h2
structure Meas {H : Type} (b : DataW H → Nat) : Prop where
 str : ∀ l, l.length ≤ b (.lit (.string l))
 len : ∀ (l r : List (DataW H)), l.length ≤ b (.slice l r)
 el : ∀ (l r : List (DataW H)), ∀ x ∈ l, b x ≤ b (.slice l r)
 part : ∀ (l : List (DataW H)), ∀ x ∈ l, b x ≤ b (.agg l)
def zeZ (P : Program) : List Field → Nat → Option Nat
 | [], off => some off
 | f :: fs, off => if f.offset = off then zeZ P fs (off + P.cellsOf f.type) else none
def zjc (P : Program) : Nat → TypeId → Bool
 | 0, _ => false
 | n + 1, t => match P.underlying t with
  | some .bool => true
  | some (.int _) => true
  | some .string => true
  | some (.slice e) => decide (0 < P.cellsOf e) && zjc P n e
  | some (.struct fs) => (zeZ P fs.toList 0 == some (P.cellsOf t)) && fs.toList.all fun f => zjc P n f.type
  | some (.array m e) => (m * P.cellsOf e == P.cellsOf t) && zjc P n e
  | _ => false
theorem zcR {S : Nat → Prop} {w : World} : ∀ {L : List (List PV)} {M : List (List Value)}, L.length = M.length → (∀ (i : Nat) (x : List PV) (y : List Value), L[i]? = some x → M[i]? = some y → PRepL S w x y) → PRepL S w L.flatten M.flatten
 | [], [], _, _ => by simp [PRepL]
 | x :: L, y :: M, hl, h => by
  simp only [qbZ]
  exact (h 0 x y qC qC).append (zcR qa4 fun i a b ha hb => h (i + 1) a b (by simpa using ha) qa5)
theorem cut_parts {α : Type} : ∀ (n k : Nat) (l : List α), l.length = n * k → ((List.range n).map fun i => (l.drop (i * k)).take k).flatten = l
 | 0, k, l, h => by simp at h; simp [h]
 | n + 1, k, l, h => by
  rw [List.range_succ_eq_map, qbj, qbW, qbZ, Nat.zero_mul, qch]
  have e : ((fun i => (l.drop (i * k)).take k) ∘ Nat.succ) = fun i => ((l.drop k).drop (i * k)).take k := by
   funext i
   simp only [Function.comp, qcN]
   congr 2
   rw [Nat.succ_mul, Nat.add_comm]
  rw [e, cut_parts n k (l.drop k) (by rw [qby, h, qcc]; omega), qbQ]
theorem zh9 {P : Program} {α : Type} : ∀ (fs : List Field) (off : Nat) (l : List α), zeZ P fs off = some (off + l.length) → (fs.map fun f => (l.drop (f.offset - off)).take (P.cellsOf f.type)).flatten = l
 | [], off, l, h => by
  simp only [zeZ, Option.some.injEq] at h
  have : l = [] := qbt qp
  simp [this]
 | f :: fs, off, l, h => by
  have tl : ∀ (fs : List Field) (off n : Nat), zeZ P fs off = some n → off ≤ n := by
   intro fs
   induction fs with
   | nil => intro off n h; simp only [zeZ, Option.some.injEq] at h; omega
   | cons g gs ih =>
    intro off n h
    simp only [zeZ] at h
    split at h
    ·have := ih _ _ h; omega
    ·cases h
  simp only [zeZ] at h
  split at h
  ·rename_i hf
   have hle := tl _ _ _ h
   have tf : ∀ (gs : List Field) (o n : Nat), zeZ P gs o = some n → ∀ g ∈ gs, o ≤ g.offset := by
    intro gs
    induction gs with
    | nil => intro _ _ _ g hg; cases hg
    | cons a aSs ih =>
     intro o n hn g hg
     simp only [zeZ] at hn
     split at hn
     ·rename_i ha
      rcases qbm.1 hg with rfl | hg
      ·omega
      ·have := ih _ _ hn g hg; omega
     ·cases hn
   have hfs := tf _ _ _ h
   rw [qbj, qbZ, hf, Nat.sub_self, qch]
   have e : (fs.map fun g => (l.drop (g.offset - off)).take (P.cellsOf g.type)) = fs.map fun g => ((l.drop (P.cellsOf f.type)).drop (g.offset - (off + P.cellsOf f.type))).take (P.cellsOf g.type) := by
    refine qcb fun g hg => ?_
    rw [qcN]
    congr 2
    have := hfs g hg
    omega
   rw [e, zh9 fs (off + P.cellsOf f.type) (l.drop (P.cellsOf f.type)) (by rw [h, qby]; congr 1; omega), qbQ]
  ·cases h
section
variable {H : Type} {enc : TypeId × Value → H} {P : Program} {w : World} {spare : Nat → Bool} {held : Bool}
theorem zea {a : Addr} {n : Nat} {cs : List Value} (h : w.cells? 0 a n = some cs) : cs.length = n ∧ ∀ j v, cs[j]? = some v → w.cell? (a.add j) = some v := by
 unfold World.cells? at h
 rw [if_pos (qb6 _)] at h
 have hl := mapM_some_length h
 refine ⟨by simpa using hl, fun j v hj => ?_⟩
 have hjn : j < n := by have := (qbl.1 hj).1; simp at hl; omega
 have := mapM_some_get h j j (by simp [hjn])
 rw [this]; exact hj
theorem zc7 {z : Nat} {d : DataW H} {e : TypeId} : ∀ {l : List (DataW H)}, d ∈ l → z ∈ d.weights P e → z ∈ DataW.weightsAll P e l
 | [], h, _ => by cases h
 | a :: l, h, hz => by
  simp only [DataW.weightsAll, qbz]
  rcases qbm.1 h with rfl | h
  ·exact .inl hz
  ·exact .inr (zc7 h hz)
theorem zg5 : ∀ (d n : Nat) (t : TypeId) (cs : List Value) (x : DataW H × List MemPlace), zjc P d t = true → DataW.trod enc P w 0 spare held n t cs = some x → (∀ z ∈ x.1.weights P t, z ≤ reachBytes) → ∃ ps, PRepL (fun b => b < w.heap.size) w ps cs ∧ Ty P d t ps ∧ ∀ b, Meas b → PV.bdL (b x.1) ps
 | 0, _, _, _, _, h, _, _ => by simp [zjc] at h
 | d + 1, n, t, cs, x, hd, ht, hz => by
  unfold zjc at hd
  unfold Ty
  cases hu : P.underlying t with
  | none => simp [hu] at hd
  | some u =>
   simp only [hu] at hd ⊢
   cases u <;> simp only [qbE] at hd
   case bool =>
    obtain ⟨b, rfl, _⟩ := DataW.trod_bool hu ht
    exact ⟨[.v (.bool b)], by simp only [PRepL, PRep]; exact ⟨_, _, rfl, ⟨rfl, rfl⟩, rfl⟩, ⟨b, rfl⟩, fun _ _ => by simp [PV.bdL, PV.bd]⟩
   case int k =>
    obtain ⟨i, rfl, _, hw⟩ := DataW.trod_int hu ht
    exact ⟨[.v (.int k i)], by simp only [PRepL, PRep]; exact ⟨_, _, rfl, ⟨rfl, rfl⟩, rfl⟩, ⟨i, rfl, hw⟩, fun _ _ => by simp [PV.bdL, PV.bd]⟩
   case string =>
    obtain ⟨s, rfl, hxe, hl⟩ := DataW.trod_string hu ht
    have hl2 : s.size ≤ reachBytes := by
     refine hz _ ?_
     rw [hxe]; simp [DataW.weights]
    exact ⟨[.v (.string s)], by simp only [PRepL, PRep]; exact ⟨_, _, rfl, ⟨rfl, rfl⟩, rfl⟩, ⟨s, rfl, hl2⟩, fun b hb => by have := hb.str s.data.toList; rw [hxe]; simp only [PV.bdL, PV.bd, and_true]; simpa using this⟩
   case slice e =>
    simp only [qbv, decide_eq_true_eq] at hd
    rcases Go.Deep.open_slice hu ht with ⟨rfl, _⟩ | ⟨a, len, cap, m, n', D, Pl, rfl, _, hlc, hcm, hm, hxe, hel⟩
    ·refine ⟨[.sl 0 (P.cellsOf e) []], ?_, ⟨[], rfl, qC, qC⟩, fun _ _ => by simp [PV.bdL, PV.bd]⟩
     simp only [PRepL, PRep]
     exact ⟨_, _, rfl, ⟨none, 0, [], rfl, Nat.le_refl _, qC, rfl, .inl trivial⟩, rfl⟩
    ·have hmle : len ≤ m := by rw [hm]; split <;> omega
     have hby : len * P.bytesOf e ≤ reachBytes := by
      have h1 : (((List.range len).map D).length + ((List.range (m - len)).map fun j => D (len + j)).length) * P.bytesOf e ≤ reachBytes := by
       refine hz _ ?_
       rw [hxe]; simp [DataW.weights, hu]
      refine qcd (qbL _ ?_) h1
      simp
     have hzD : ∀ i, i < len → ∀ z ∈ (D i).weights P e, z ≤ reachBytes := fun i hi z hz' => by
      refine hz z ?_
      rw [hxe]
      simp only [DataW.weights, hu]
      exact qcx _ (List.mem_append_left _ (zc7 (qbo.2 ⟨i, by simpa using hi, rfl⟩) hz'))
     have hall : ∀ i, ∃ p : List Value × List PV, i < len → w.cells? 0 (a.add (i * P.cellsOf e)) (P.cellsOf e) = some p.1 ∧ PRepL (fun b => b < w.heap.size) w p.2 p.1 ∧ Ty P d e p.2 ∧ ∀ b, Meas b → PV.bdL (b (D i)) p.2 := by
      intro i
      by_cases hi : i < len
      ·obtain ⟨cs', h1, h2⟩ := hel i qp
       obtain ⟨ps, h3, h4, h5⟩ := zg5 d n' e cs' _ hd.2 h2 (hzD i hi)
       exact ⟨(cs', ps), fun _ => ⟨h1, h3, h4, h5⟩⟩
      ·exact ⟨([], []), fun h => absurd h hi⟩
     obtain ⟨F, hF⟩ := Classical.axiomOfChoice hall
     have hLl : ((List.range len).map fun i => (F i).2).length = len := qC
     have hget : ∀ i x, ((List.range len).map fun i => (F i).2)[i]? = some x → i < len ∧ x = (F i).2 := by
      intro i x hx
      have hi : i < len := qaC
      simp [hi] at hx
      exact ⟨hi, hx.symm⟩
     have hsz : ∀ i, i < len → (F i).2.length = P.cellsOf e := fun i hi => by
      obtain ⟨h1, h2, _⟩ := hF i hi
      have := h2.length
      have h3 := (zea h1).1
      omega
     refine ⟨[.sl len (P.cellsOf e) ((List.range len).map fun i => (F i).2).flatten], ?_, ⟨(List.range len).map fun i => (F i).2, by rw [hLl], by rw [hLl]; exact ⟨qp, hby⟩, ?_⟩, ?_⟩
     ·simp only [PRepL, PRep]
      refine ⟨_, _, rfl, ⟨some a, cap, ((List.range len).map fun i => (F i).1).flatten, rfl, hlc, ?_, ?_, ?_⟩, rfl⟩
      ·have : ∀ l : List Nat, (∀ i ∈ l, i < len) → (l.map fun i => (F i).2).flatten.length = l.length * P.cellsOf e := by
        intro l
        induction l with
        | nil => intro _; simp
        | cons i l ih =>
         intro hl
         simp only [qbj, qbZ, qbg, qbs]
         rw [ih fun j hj => hl j (by simp [hj]), hsz i (hl i (by simp)), qcc]
         omega
       rw [this _ fun i hi => by simpa using hi, List.length_range]
      ·refine zcR qC fun i x y hx hy => ?_
       obtain ⟨hi, rfl⟩ := hget i x hx
       have hy' : y = (F i).1 := by simp [hi] at hy; exact hy.symm
       rw [hy']
       exact (hF i hi).2.1
      ·by_cases h0 : len = 0
       ·exact .inl h0
       ·right
        have h0' : 0 < len := qp
        have c0 := zea (hF 0 h0').1
        obtain ⟨v0, hv0⟩ : ∃ v, (F 0).1[0]? = some v := ⟨_, List.getElem?_eq_getElem (by rw [c0.1]; exact hd.1)⟩
        have hc0 := c0.2 0 v0 hv0
        rw [Nat.zero_mul] at hc0
        obtain ⟨b, off, spot⟩ := a
        have hadd0 : ((⟨b, off, spot⟩ : Addr).add 0).add 0 = ⟨b, off, spot⟩ := by simp [Addr.add]
        rw [hadd0] at hc0
        have hspot : spot = none := by simpa using World.cell?_spot hc0
        subst hspot
        refine ⟨b, off, rfl, World.block_lt_of_cell? w _ hc0, fun j v hj => ?_⟩
        have hk : 0 < P.cellsOf e := hd.1
        have key : ∀ (n : Nat) (j : Nat) (v : Value), n ≤ len → (((List.range n).map fun i => (F i).1).flatten)[j]? = some v → w.cell? ⟨b, off + j, none⟩ = some v := by
         intro n
         induction n with
         | zero => intro j v _ hj; simp at hj
         | succ n ih =>
          intro j v hn hj
          have hlen : (((List.range n).map fun i => (F i).1).flatten).length = n * P.cellsOf e := by
           have : ∀ l : List Nat, (∀ i ∈ l, i < len) → (l.map fun i => (F i).1).flatten.length = l.length * P.cellsOf e := by
            intro l
            induction l with
            | nil => intro _; simp
            | cons i l ih2 =>
             intro hl
             simp only [qbj, qbZ, qbg, qbs]
             rw [ih2 fun j hj => hl j (by simp [hj]), (zea (hF i (hl i (by simp))).1).1, qcc]
             omega
           rw [this _ fun i hi => by have : i < n := by simpa using hi
                                     omega, List.length_range]
          rw [List.range_succ, qbF, List.flatten_append, List.getElem?_append, hlen] at hj
          split at hj
          ·exact ih j v qp hj
          ·rename_i hge
           simp only [qbj, qcB, qbZ, List.flatten_nil, qbA] at hj
           have := (zea (hF n qp).1).2 _ v hj
           rw [Addr.add_mid, Addr.add_mid] at this
           rw [← this]
           congr 2
           omega
        exact key len j v (Nat.le_refl _) hj
     ·intro x hx
      obtain ⟨i, hi, rfl⟩ := qbo.1 hx
      have hi' : i < len := qX
      exact ⟨(hF i hi').2.2.1, hsz i hi'⟩
     ·intro b hb
      rw [hxe]
      have h1 := hb.len ((List.range len).map D) ((List.range (m - len)).map fun j => D (len + j))
      have h2 := hb.el ((List.range len).map D) ((List.range (m - len)).map fun j => D (len + j))
      simp only [PV.bdL, PV.bd, and_true]
      refine ⟨by simpa using h1, zjj fun x hx => ?_⟩
      obtain ⟨i, hi, rfl⟩ := qbo.1 hx
      have hi' : i < len := qX
      exact zcW (h2 (D i) (qbo.2 ⟨i, hi, rfl⟩)) _ ((hF i hi').2.2.2 b hb)
   case struct fs =>
    simp only [qbv, beq_iff_eq, qbU] at hd
    obtain ⟨xs, n', _, hxe, hl, hxl, hx⟩ := DataW.trod_struct hu ht
    have hall : ∀ f : Field, ∃ ps : List PV, f ∈ fs.toList → PRepL (fun b => b < w.heap.size) w ps ((cs.drop f.offset).take (P.cellsOf f.type)) ∧ Ty P d f.type ps ∧ ∀ b, Meas b → PV.bdL (b x.1) ps := by
     intro f
     by_cases hf : f ∈ fs.toList
     ·obtain ⟨i, hi, he⟩ := qb5.1 hf
      have hi' : i < fs.size := qX
      have hfi : fs[i]? = some f := by rw [qcG hi']; simpa using he
      have := hx i f hfi
      rw [List.getElem?_eq_getElem (by omega)] at this
      obtain ⟨ps, h3, h4, h5⟩ := zg5 d n' f.type _ _ (hd.2 f hf) this fun z hz' => by
       refine hz z ?_
       rw [hxe]
       simp only [DataW.weights, hu]
       exact DataW.weights_mem_each (j := i) (by rw [qbV, show fs.toList[i]? = some f by simpa using hfi]; rfl) (by rw [qbV, List.getElem?_eq_getElem (by omega)]; rfl) z hz'
      refine ⟨ps, fun _ => ⟨h3, h4, fun b hb => zcW ?_ _ (h5 b hb)⟩⟩
      rw [hxe]
      exact hb.part _ _ (qbo.2 ⟨_, qce _, rfl⟩)
     ·exact ⟨[], fun h => absurd h hf⟩
    obtain ⟨F, hF⟩ := Classical.axiomOfChoice hall
    have hcut := zh9 (P := P) fs.toList 0 cs (by rw [hd.1, hl, Nat.zero_add])
    simp only [qcP] at hcut
    refine ⟨(fs.toList.map F).flatten, ?_, ⟨fs.toList.map F, rfl, qC, fun i f x hi hx => ?_⟩, fun b hb => zjj fun y hy => ?_⟩
    ·rw [← hcut]
     refine zcR qC fun i x y hx hy => ?_
     simp only [qbV, qcz] at hx hy
     obtain ⟨f, h1, rfl⟩ := hx
     obtain ⟨f', h2, rfl⟩ := hy
     rw [h1] at h2; cases h2
     exact (hF f (qbh h1)).1
    ·simp only [qbV, qcz] at hx
     obtain ⟨f', h1, rfl⟩ := hx
     have h2 : fs.toList[i]? = some f := qX
     rw [h2] at h1; cases h1
     have hmem := qbh h2
     obtain ⟨k1, k2, _⟩ := hF f hmem
     refine ⟨k2, ?_⟩
     have k3 := k1.length
     rw [← k3, List.length_take, qby]
     have tb : ∀ (gs : List Field) (o n : Nat), zeZ P gs o = some n → ∀ g ∈ gs, g.offset + P.cellsOf g.type ≤ n := by
      intro gs
      induction gs with
      | nil => intro _ _ _ g hg; cases hg
      | cons a aSs ih =>
       intro o n hn g hg
       simp only [zeZ] at hn
       split at hn
       ·rename_i ha
        rcases qbm.1 hg with rfl | hg
        ·have tl : ∀ (fs : List Field) (off n : Nat), zeZ P fs off = some n → off ≤ n := by
          intro fs
          induction fs with
          | nil => intro off n h; simp only [zeZ, Option.some.injEq] at h; omega
          | cons g gs ih =>
           intro off n h
           simp only [zeZ] at h
           split at h
           ·have := ih _ _ h; omega
           ·cases h
         have := tl _ _ _ hn
         omega
        ·exact ih _ _ hn g hg
       ·cases hn
     have := tb _ _ _ hd.1 f hmem
     omega
    ·obtain ⟨f, h1, rfl⟩ := qbo.1 hy
     exact (hF f h1).2.2 b hb
   case array m e =>
    simp only [qbv, beq_iff_eq] at hd
    obtain ⟨xs, n', _, hxe, hl, hxl, hx⟩ := DataW.trod_array hu ht
    have hall : ∀ i : Nat, ∃ ps : List PV, i < m → PRepL (fun b => b < w.heap.size) w ps ((cs.drop (i * P.cellsOf e)).take (P.cellsOf e)) ∧ Ty P d e ps ∧ ∀ b, Meas b → PV.bdL (b x.1) ps := by
     intro i
     by_cases hi : i < m
     ·have := hx i hi
      rw [List.getElem?_eq_getElem (by omega)] at this
      obtain ⟨ps, h3, h4, h5⟩ := zg5 d n' e _ _ hd.2 this fun z hz' => by
       refine hz z ?_
       rw [hxe]
       simp only [DataW.weights, hu]
       exact zc7 (qbo.2 ⟨_, qce _, rfl⟩) hz'
      refine ⟨ps, fun _ => ⟨h3, h4, fun b hb => zcW ?_ _ (h5 b hb)⟩⟩
      rw [hxe]
      exact hb.part _ _ (qbo.2 ⟨_, qce _, rfl⟩)
     ·exact ⟨[], fun h => absurd h hi⟩
    obtain ⟨F, hF⟩ := Classical.axiomOfChoice hall
    have hcut := cut_parts m (P.cellsOf e) cs (by rw [hl, hd.1])
    refine ⟨((List.range m).map F).flatten, ?_, ⟨(List.range m).map F, rfl, qC, fun x hx => ?_⟩, fun b hb => zjj fun y hy => ?_⟩
    ·rw [← hcut]
     refine zcR qC fun i x y hx hy => ?_
     have hi : i < m := qaC
     simp [hi] at hx hy
     rw [← hx, ← hy]
     exact (hF i hi).1
    ·obtain ⟨i, hi, rfl⟩ := qbo.1 hx
     have hi' : i < m := qX
     obtain ⟨k1, k2, _⟩ := hF i hi'
     refine ⟨k2, ?_⟩
     rw [← k1.length, List.length_take, qby, hl, ← hd.1]
     have : i * P.cellsOf e + P.cellsOf e ≤ m * P.cellsOf e := by rw [← Nat.succ_mul]; exact qbL _ hi'
     omega
    ·obtain ⟨i, hi, rfl⟩ := qbo.1 hy
     exact (hF i qX).2.2 b hb
def argAV (row : Bool) (ps : List PV) : AV := bif row then .agg (ps.map AV.p) else match ps with
 | [x] => .p x
 | _ => .any
theorem zjm {t : TypeId} {u : TypeDesc} {d : Nat} {v : Value} {dd : DataW H} {pl : List MemPlace} {r : Reach} {b0 : Nat} (hu : P.underlying t = some u) (hd : zjc P d t = true) (hval : Value.okWide P w r b0 t v) (ht : DataW.Trod enc P w 0 spare held t v dd pl) (hz : ∀ z ∈ dd.weights P t, z ≤ reachBytes) :
 ∃ ps, Ty P d t ps ∧ (∀ b, Meas b → PV.bdL (b dd) ps) ∧ Rep (fun b => b < w.heap.size) (fun _ => none) w (argAV u.isRow ps) v := by
 obtain ⟨n, hn⟩ := ht
 obtain ⟨ps, h1, h2, hbd⟩ := zg5 d n t _ _ hd hn hz
 refine ⟨ps, h2, hbd, ?_⟩
 have scalar : u.isRow = false → v.cells = #[v] → Rep (fun b => b < w.heap.size) (fun _ => none) w (argAV u.isRow ps) v := by
  intro e1 e2
  rw [e2] at h1
  have hl := h1.length
  match ps, hl with
  | [x], _ =>
   rw [e1]
   simp only [PRepL] at h1
   obtain ⟨a, aSs, h3, h4, h5⟩ := h1
   simp only [List.cons.injEq] at h3
   show Rep _ _ _ (.p x) v
   simp only [Rep]
   rw [h3.1]; exact h4
 have agg : ∀ cs : Array Value, v = .agg cs → u.isRow = true → Rep (fun b => b < w.heap.size) (fun _ => none) w (argAV u.isRow ps) v := by
  intro cs e1 e2
  subst e1
  rw [e2]
  show Rep _ _ _ (.agg (ps.map AV.p)) _
  simp only [Rep]
  exact ⟨cs.toList, qC, h1.repL, h1.one⟩
 cases d with
 | zero => simp [zjc] at hd
 | succ d =>
  unfold zjc at hd
  rw [hu] at hd
  cases u <;> simp only [qbE] at hd
  case bool => obtain ⟨b, rfl⟩ := Go.WideShapes.okWide_bool hu hval; exact scalar rfl rfl
  case int k => obtain ⟨i, rfl⟩ := Go.WideShapes.okWide_int hu hval; exact scalar rfl rfl
  case string => obtain ⟨s, rfl⟩ := Go.WideShapes.okWide_string hu hval; exact scalar rfl rfl
  case slice e => obtain ⟨a, len, cap, rfl⟩ := Go.WideShapes.okWide_slice hu hval; exact scalar rfl rfl
  case struct fs => obtain ⟨cs, rfl, _⟩ := Go.WideShapes.okWide_struct hu hval; exact agg cs rfl rfl
  case array m e =>
   simp only [Value.okWide, hu] at hval
   obtain ⟨cs, rfl, _⟩ := hval
   exact agg cs rfl rfl
end
theorem zbz {P : Program} {n t : Nat} {k : IntKind} {ps : List PV} (hu : P.underlying t = some (.int k)) (hT : Ty P (n + 1) t ps) : ∃ i, ps = [.v (.int k i)] ∧ (Lit.int k i).wf = true := by
 unfold Ty at hT; simpa only [hu] using hT
theorem zhf {P : Program} {n t : Nat} {ps : List PV} (hu : P.underlying t = some .bool) (hT : Ty P (n + 1) t ps) : ∃ b, ps = [.v (.bool b)] := by
 unfold Ty at hT; simpa only [hu] using hT
theorem zbD {P : Program} {n t : Nat} {ps : List PV} (hu : P.underlying t = some .string) (hT : Ty P (n + 1) t ps) : ∃ s, ps = [.v (.string s)] ∧ s.size ≤ reachBytes := by
 unfold Ty at hT; simpa only [hu] using hT
theorem zfr {P : Program} {n t e sz : Nat} {ps : List PV} (hu : P.underlying t = some (.slice e)) (hs : P.cellsOf e = sz) (hT : Ty P (n + 1) t ps) : ∃ L : List (List PV), ps = [.sl L.length sz L.flatten] ∧ L.length ≤ maxLen ∧ ∀ x ∈ L, Ty P n e x ∧ x.length = sz := by
 unfold Ty at hT; subst hs; simp only [hu] at hT
 obtain ⟨L, h1, h2, h3⟩ := hT
 exact ⟨L, h1, h2.1, h3⟩
theorem ty_sliceS {P : Program} {n t e sz : Nat} {ps : List PV} (hu : P.underlying t = some (.slice e)) (hs : P.cellsOf e = sz) (hT : Ty P (n + 1) t ps) : ∃ L : List (List PV), ps = [.sl L.length sz L.flatten] ∧ L.length * P.bytesOf e ≤ reachBytes ∧ ∀ x ∈ L, Ty P n e x ∧ x.length = sz := by
 unfold Ty at hT; subst hs; simp only [hu] at hT
 obtain ⟨L, h1, h2, h3⟩ := hT
 exact ⟨L, h1, h2.2, h3⟩
theorem wf_u8 {i : Int} (h : (Lit.int .u8 i).wf = true) : 0 ≤ i ∧ i < 256 := by
 exact jad
theorem zeS {i : Int} (h : (Lit.int .i64 i).wf = true) : -9223372036854775808 ≤ i ∧ i ≤ 9223372036854775807 := by
 exact jad
theorem wf_u64 {i : Int} (h : (Lit.int .u64 i).wf = true) : 0 ≤ i ∧ i < 18446744073709551616 := by
 exact jad
theorem wf_u32 {i : Int} (h : (Lit.int .u32 i).wf = true) : 0 ≤ i ∧ i < 4294967296 := by
 exact jad
theorem ziA {P : Program} {n e : Nat} (he : P.underlying e = some (.int .u8)) : ∀ {L : List (List PV)}, (∀ x ∈ L, Ty P (n + 1) e x) → ∃ xs : List Int, xs.length = L.length ∧ L.flatten = bs xs ∧ ∀ x ∈ xs, 0 ≤ x ∧ x < 256
 | [], _ => ⟨[], rfl, rfl, qC⟩
 | x :: L, h => by
  obtain ⟨xs, h1, h2, h3⟩ := ziA he (L := L) fun y hy => h y qa7
  obtain ⟨i, rfl, hw⟩ := zbz he (h x qC)
  refine ⟨i :: xs, by simp [h1], by rw [qbZ, h2]; rfl, fun y hy => ?_⟩
  rcases qbm.1 hy with rfl | hy
  ·exact wf_u8 hw
  ·exact h3 y hy
theorem ty_bytes {P : Program} {n t e : Nat} {ps : List PV} (hu : P.underlying t = some (.slice e)) (he : P.underlying e = some (.int .u8)) (hs : P.cellsOf e = 1) (hT : Ty P (n + 2) t ps) : ∃ xs : List Int, ps = [.sl xs.length 1 (bs xs)] ∧ xs.length ≤ maxLen ∧ ∀ x ∈ xs, 0 ≤ x ∧ x < 256 := by
 obtain ⟨L, rfl, hl, h⟩ := zfr hu hs hT
 obtain ⟨xs, h1, h2, h3⟩ := ziA he fun x hx => (h x hx).1
 exact ⟨xs, by rw [h1, h2], qp, h3⟩
theorem zi8 {P : Program} {f : FuncId} {args : List AV} {r : Value} (hr : r.oneCell' = true) (h : ∀ (w : World) (A : Nat → Prop) (us : List Value), (∀ b, A b → b < w.heap.size) → RepL A (fun _ => none) w args us →
 Calls P f us.toArray w fun e w' => e = .returned r ∧ Below w.heap.size w w') : Fn P f args (.p (.v r)) [] := by
 intro w A us hA hG hus
 refine (h w A us hA hus).mono ?_
 rintro e w' ⟨rfl, hb⟩
 refine ⟨r, rfl, A, fun _ => none, by simp only [Rep, PRep, true_and]; exact hr, hb, fun b hb => .inl hb, fun b h => qct (hA b h) hb.size, fun o _ => rfl, fun o ob ho => qaG, fun o o' ob ob' v v' b ho => qaG, hG⟩
theorem repL_vs {S : Nat → Prop} {m : Nat → Option Value} {w : World} : ∀ {vs us : List Value}, RepL S m w (vs.map fun v => .p (.v v)) us → us = vs
 | [], us, h => by simpa only [qcB, RepL] using h
 | v :: vs, us, h => by
  simp only [qbj, RepL] at h
  obtain ⟨u, us, rfl, h2, h3⟩ := h
  simp only [Rep, PRep] at h2
  rw [h2.1, repL_vs h3]
theorem zfR {P : Program} {f : FuncId} (vs : List Value) {r : Value} (hr : r.oneCell' = true) (h : ∀ w : World, Calls P f vs.toArray w fun e w' => e = .returned r ∧ w' = w) : Fn P f (vs.map fun v => .p (.v v)) (.p (.v r)) [] := by
 refine zi8 hr fun w A us hA hus => ?_
 rw [repL_vs hus]
 exact (h w).mono fun e w' ⟨h1, h2⟩ => ⟨h1, by rw [h2]; exact Below.refl _ _⟩
theorem zbF {st : St} (t o e size : Nat) (ht : st.tmps t = .p (.v (.slice none 0 0))) (ho : st.heap o = .un) : Re st ((st.upd [(o, .live (.row e size 0 []))]).put (some t) (.row o)) := by
 rintro w0 A nt a w ⟨⟨S, m, hm, hj, hr⟩, hsz, hd⟩
 have hmo := hm.un o ho
 have g : Grow S m w S (fun x => if x = o then some (.slice none 0 0) else m x) w := ⟨fun _ h => h, fun _ _ => rfl, fun x v h => by
  by_cases hx : x = o
  ·subst hx; rw [hmo] at h; cases h
  ·simp only [if_neg hx]; exact h⟩
 refine ⟨⟨S, fun x => if x = o then some (.slice none 0 0) else m x, ?_, hj, fun t' => ?_⟩, hsz, hd⟩
 ·rw [zbU]
  refine ⟨hm.bel, hm.sA, hm.sW, fun x hx => ?_, fun x ob hx => ?_, fun x x' ob ob' v v' b hx hx' hv hv' hb hb' => ?_, hm.gl⟩
  ·by_cases e1 : x = o
   ·subst e1; simp [St.upd, updL] at hx
   ·simp only [if_neg e1]
    refine hm.un x ?_
    simpa [St.upd, updL, nbeq e1] using hx
  ·by_cases e1 : x = o
   ·subst e1
    simp [St.upd, updL] at hx
    subst hx
    refine ⟨.slice none 0 0, qC, ⟨[], by simp [PRepL], qC, .inl ⟨rfl, rfl⟩⟩, fun b hb => by simp [blk] at hb⟩
   ·have hx' : st.heap x = .live ob := by simpa [St.upd, updL, nbeq e1] using hx
    obtain ⟨v, h1, h2, h3⟩ := hm.live x ob hx'
    exact ⟨v, by simp only [if_neg e1]; exact h1, h2.mono g fun _ _ => rfl, h3⟩
  ·by_cases e1 : x = o
   ·subst e1; simp at hv; subst hv; simp [blk] at hb
   ·by_cases e2 : x' = o
    ·subst e2; simp at hv'; subst hv'; simp [blk] at hb'
    ·simp only [if_neg e1] at hv
     simp only [if_neg e2] at hv'
     exact hm.inj x x' ob ob' v v' b (by simpa [St.upd, updL, nbeq e1] using hx) (by simpa [St.upd, updL, nbeq e2] using hx') hv hv' hb hb'
 ·by_cases e1 : t' = t
  ·subst e1
   have := hr t'
   rw [ht] at this
   simp only [Rep, PRep] at this
   simp only [St.put, qca, cond_true, Rep]
   rw [this.1]
   exact ⟨qC, _, _, _, rfl⟩
  ·have hb : Nat.beq t' t = false := nbeq e1
   simp only [St.put, hb, cond_false, St.upd]
   exact Rep.mono g _ _ (hr t')
section
variable {P : Program} {d : Option Tmp} {ty : TypeId} {pos : String} {af : Array Edge} {g : Option (Nat × Bool)}
theorem za5 {t e : TypeId} {size : Nat} (d' : Nat) (hu : P.underlying t = some (.slice e)) (hi : (P.info? e).map (·.size) = some size) :
 AOp P ⟨d, .buildSlice t 0 #[], ty, pos, af, g⟩ [] [(d', .un)] [(d', .live (.row e size 0 []))] (.row d') := by
 intro w0 A S mm heap w ev hm hR hrd
 have hd' : heap d' = .un := rd1 hrd
 have hex : (execOp ev ⟨d, .buildSlice t 0 #[], ty, pos, af, g⟩).run P w = .ok (.value (.slice (some ⟨w.heap.size, 0, none⟩) 0 0)) (w.alloc (.cells #[] e)) := by
  cases hq : P.info? e with
  | none => simp [hq] at hi
  | some i =>
   simp [hq] at hi
   simp only [execOp, Instr.buildSlice, qbp, run_underlying hu, qbi, zbb (P := P) (t := e) (n := size) (by rw [hq]; simp [hi]), Nat.zero_mul, show ¬ (0 > 2 ^ 24) by omega, if_false, if_true, qbq]
   simp [Instr.fill, newRow, show Array.range 0 = #[] from rfl]
 unfold Out
 rw [hex]
 have hb : Below w.heap.size w (w.alloc (.cells #[] e)) := (Below.refl _ _).alloc (Nat.le_refl _) _
 have hgr := zdv hm hb hd' (.slice (some ⟨w.heap.size, 0, none⟩) 0 0)
 obtain ⟨f1, f2⟩ := zdD hm hb d' hd' (.slice (some ⟨w.heap.size, 0, none⟩) 0 0) (.row e size 0 []) (fun b hb => by simp [blk] at hb; omega)
  ⟨[], by simp [PRepL], qC, .inr ⟨w.heap.size, 0, #[], (0, 0), rfl, hm.hB, heap_alloc_new w _, .inl rfl, Nat.le_refl _, qb6 _, qC, qC⟩⟩
 exact jac
end
def isB (l : List Int) : Prop := ∀ x ∈ l, 0 ≤ x ∧ x < 256
theorem setR_one {α : Type} {l : List α} {i : Nat} {x : α} (h : i < l.length) : setR l i [x] = l.set i x := by
 rw [List.set_eq_take_append_cons_drop, if_pos h]
 simp [setR]
theorem bs_at {xs : List Int} {i : Nat} {x : Int} (h : xs[i]? = some x) : (bs xs)[i]? = some (.v (.int .u8 x)) := by simp [bs, h]
theorem bs_set {xs : List Int} {i : Nat} {x : Int} (h : i < xs.length) : setR (bs xs) i [.v (.int .u8 x)] = bs (xs.set i x) := by
 rw [setR_one (by simpa [bs] using h), bs, bs, List.map_set]
theorem bs_push {xs : List Int} {x : Int} : bs xs ++ [.v (.int .u8 x)] = bs (xs ++ [x]) := by simp [bs]
theorem sb_isB (s : ByteArray) : isB (sb s) := by
 intro x hx
 obtain ⟨c, _, rfl⟩ := qbo.1 hx
 have := c.toNat_lt
 omega
def sAt (s : ByteArray) (i : Nat) : Int := (sb s).getD i 0
theorem sb_at {s : ByteArray} {i : Nat} (h : i < s.size) : (sb s)[i]? = some (sAt s i) := by
 have h' : i < (sb s).length := by rw [zfy]; exact h
 rw [sAt, List.getD_eq_getElem?_getD, List.getElem?_eq_getElem h']; rfl
theorem zgb {s : ByteArray} {i : Nat} (h : i < s.size) : (s.data.toList[i]?).map (fun b : UInt8 => ((b.toNat : Nat) : Int)) = some (sAt s i) := by
 rw [← sb_at h, sb, qbV]
theorem sAt_B {s : ByteArray} {i : Nat} (h : i < s.size) : 0 ≤ sAt s i ∧ sAt s i < 256 := sb_isB s _ (qbh (sb_at h))
theorem zhJ (n : Nat) (hn : n < 9223372036854775808) : bits .and .i64 (n : Int) 1 = ((n % 2 : Nat) : Int) := by
 have e : (1 : Int) = ((1 : Nat) : Int) := rfl
 have h1 : (BitVec.ofInt 64 (n : Int)).toNat = n := by
  rw [BitVec.ofInt_natCast, BitVec.toNat_ofNat]; exact Nat.mod_eq_of_lt qp
 have h2 : (BitVec.ofInt 64 (1 : Int)).toNat = 1 := qE
 show IntKind.i64.wrap ((BitVec.ofInt 64 (n : Int) &&& BitVec.ofInt 64 1).toNat : Int) = _
 rw [BitVec.toNat_and, h1, h2, Nat.and_one_is_mod, IntKind.wrap_i64]
 omega
theorem ziZ {w0 : World} {A S : Nat → Prop} {m : Nat → Option Value} {heap : Nat → Slot} {w w' : World} (hm : Mem w0 A S m heap w) {o : Nat} {ob ob' : AObj} {v : Value} {b : Nat} (hl : heap o = .live ob) (hv : m o = some v) (hb : blk v = some b)
 (q1 : w'.os = w.os) (q2 : w'.tape = w.tape) (q3 : w'.output = w.output) (q4 : w'.heap.size = w.heap.size) (q5 : ∀ k, k ≠ b → w'.heap[k]? = w.heap[k]?) (ho : ORep w0.heap.size S m w' ob' v) :
 Mem w0 A S m (updL heap [(o, .live ob')]) w' ∧ Grow S m w S m w' := by
 obtain ⟨v', k1, k2, k3⟩ := hm.live o ob hl
 rw [hv] at k1; cases k1
 have hlt := k2.lt hb
 have g : Grow S m w S m w' := ⟨fun _ h => h, fun c hS => q5 c (fun e => k3 b hb (e ▸ hS)), fun _ _ h => h⟩
 have hbw : Below w0.heap.size w w' := ⟨q1, q2, q3, qp, fun k hk => q5 k qp⟩
 refine ⟨⟨hm.bel.trans hbw, hm.sA, fun b' h => by have := hm.sW b' h; omega, fun o' ho' => ?_, fun o' ob2 ho' => ?_, fun o1 o2 ob1 ob2 v1 v2 b' h1 h2 h3 h4 h5 h6 => ?_, hm.gl⟩, g⟩
 ·exact jam
 ·by_cases e : o' = o
  ·exact jan
  ·simp only [updL, nbeq e, cond_false] at ho'
   obtain ⟨u, j1, j2, j3⟩ := hm.live o' ob2 ho'
   exact ⟨u, j1, j2.mono g fun b' hb' => q5 b' (fun eb => by subst eb; exact e (hm.inj _ _ _ _ _ _ _ ho' hl j1 hv hb' hb)), j3⟩
 ·exact jab
section
variable {P : Program} {d : Option Tmp} {ty : TypeId} {pos : String} {af : Array Edge} {g : Option (Nat × Bool)}
end
noncomputable def eqL (xs ys : List Value) : Bool := @decide (xs = ys) (Classical.propDecidable _)
theorem zaN {xs ys : List Value} : eqL xs ys = true ↔ xs = ys := by unfold eqL; simp
theorem zdS {xs ys : List Value} : eqL xs ys = false ↔ xs ≠ ys := by unfold eqL; simp
theorem zb6 (xs : List Value) : eqL xs xs = true := zaN.2 rfl
def okF (P : Program) (f : TypeId → List Value → Bool) : List Field → Nat → List Value → Bool
 | [], _, xs => xs.isEmpty
 | fd :: fs, off, xs => (fd.name != "_") && Nat.beq fd.offset off && (match P.info? fd.type with
  | some i => Nat.ble i.size xs.length && f fd.type (xs.take i.size) && okF P f fs (off + i.size) (xs.drop i.size)
  | none => false)
def okS (P : Program) : Nat → TypeId → List Value → Bool
 | 0, _, _ => false
 | n + 1, t, xs => match P.underlying t with
  | some (.int k) => match xs with | [.int k' _] => decide (k = k') | _ => false
  | some .bool => match xs with | [.bool _] => true | _ => false
  | some .string => match xs with | [.string _] => true | _ => false
  | some (.struct fs) => !P.stoodInHeld t && okF P (okS P n) fs.toList 0 xs
  | _ => false
def mkV (P : Program) (t : TypeId) (xs : List Value) : Value :=
 match P.underlying t with
 | some (.struct _) => .agg xs.toArray
 | _ => xs.headD undef
theorem part_run {P : Program} {n : Nat} {t : TypeId} {i : TypeInfo} {X : Array Value} {off : Nat} {w : World} (hi : P.info? t = some i) (hl : i.size ≤ (X.toList.drop off).length) (h : okS P n t ((X.toList.drop off).take i.size) = true) :
 (part t X off).run P w = .ok (mkV P t ((X.toList.drop off).take i.size)) w := by
 have hsz := zbb (P := P) (t := t) (n := i.size) (by rw [hi]; rfl) w
 have hext : (X.extract off (off + i.size)) = ((X.toList.drop off).take i.size).toArray := by
  apply Array.ext'
  simp [Array.toList_extract, List.extract_eq_take_drop]
 cases n with
 | zero => simp [okS] at h
 | succ n =>
  unfold okS at h
  cases hu : P.underlying t with
  | none => simp [hu] at h
  | some ds =>
   simp only [hu] at h
   have one : ds.isRow = false → ((X.toList.drop off).take i.size).length = 1 → (∀ fs, ds ≠ .struct fs) → (part t X off).run P w = .ok (mkV P t ((X.toList.drop off).take i.size)) w := by
    intro h1 h2 h3
    unfold part
    rw [qbp, zhI hu]
    have hx : X[off]? = some (((X.toList.drop off).take i.size).headD undef) := by
     generalize hq : (X.toList.drop off).take i.size = l at h2
     match l, h2 with
     | [x], _ =>
      have h4 : ((X.toList.drop off).take i.size)[0]? = some x := by rw [hq]; rfl
      rw [qbO] at h4
      split at h4
      ·rw [qbN] at h4
       simpa using h4
      ·cases h4
    have hmk : mkV P t ((X.toList.drop off).take i.size) = ((X.toList.drop off).take i.size).headD undef := by
     unfold mkV; rw [hu]
     cases ds <;> first | rfl | exact absurd rfl (h3 _)
    simp only [h1, qbi, qbE, if_false, hx, qbq, hmk]
   cases ds <;> simp only [qbE] at h
   case int k =>
    refine one rfl ?_ (fun fs e => by cases e)
    generalize (X.toList.drop off).take i.size = l at h ⊢
    split at h
    ·rfl
    ·cases h
   case bool =>
    refine one rfl ?_ (fun fs e => by cases e)
    generalize (X.toList.drop off).take i.size = l at h ⊢
    split at h
    ·rfl
    ·cases h
   case string =>
    refine one rfl ?_ (fun fs e => by cases e)
    generalize (X.toList.drop off).take i.size = l at h ⊢
    split at h
    ·rfl
    ·cases h
   case struct fs =>
    unfold part
    rw [qbp, zhI hu]
    simp only [TypeDesc.isRow, qbi, if_true, qbp, hsz, qbq, mkV, hu, hext]
theorem eqL_nil : eqL [] [] = true := zb6 []
theorem eqL_split (k : Nat) (xs ys : List Value) : eqL xs ys = (eqL (xs.take k) (ys.take k) && eqL (xs.drop k) (ys.drop k)) := by
 rw [qbX, qbv, zaN, zaN, zaN]
 constructor
 ·intro e; rw [e]; exact ⟨rfl, rfl⟩
 ·intro ⟨h1, h2⟩
  rw [← qbQ k xs, h1, h2, qbQ]
theorem zgQ {P : Program} {n m : Nat} (ih : ∀ (t : TypeId) (xs ys : List Value) (w : World), okS P n t xs = true → okS P n t ys = true → (Op.equalIn m t (mkV P t xs) (mkV P t ys)).run P w = .ok (eqL xs ys) w) (X Y : Array Value) :
 ∀ (fs : List Field) (off : Nat) (w : World), okF P (okS P n) fs off (X.toList.drop off) = true → okF P (okS P n) fs off (Y.toList.drop off) = true →
  (Op.eqFields m X Y fs).run P w = .ok (eqL (X.toList.drop off) (Y.toList.drop off)) w
 | [], off, w, h1, h2 => by
  simp only [okF, List.isEmpty_iff] at h1 h2
  rw [h1, h2, eqL_nil]; rfl
 | f :: fs, off, w, h1, h2 => by
  simp only [okF, qbv] at h1 h2
  obtain ⟨⟨a1, a2⟩, a3⟩ := h1
  obtain ⟨⟨_, _⟩, b3⟩ := h2
  have hoff : f.offset = off := qbf a2
  cases hi : P.info? f.type with
  | none => simp [hi] at a3
  | some i =>
   simp only [hi, qbv] at a3 b3
   obtain ⟨⟨c1, c2⟩, c3⟩ := a3
   obtain ⟨⟨d1, d2⟩, d3⟩ := b3
   rw [qcN] at c3 d3
   have e1 := part_run (w := w) hi (qbe c1) c2
   have e2 := part_run (w := w) hi (qbe d1) d2
   have e3 := ih f.type _ _ w c2 d2
   have e4 := zgQ ih X Y fs (off + i.size) w c3 d3
   rw [eqL_split i.size, qcN, qcN]
   have hne : f.name ≠ "_" := by simpa using a1
   unfold Op.eqFields
   rw [if_pos hne]
   simp only [qbp, hoff, e1, qbi, e2, e3]
   cases eqL (List.take i.size (List.drop off X.toList)) (List.take i.size (List.drop off Y.toList)) with
   | true => simpa using e4
   | false => simp
theorem zfl {P : Program} : ∀ (n m : Nat), n ≤ m → ∀ (t : TypeId) (xs ys : List Value) (w : World), okS P n t xs = true → okS P n t ys = true → (Op.equalIn m t (mkV P t xs) (mkV P t ys)).run P w = .ok (eqL xs ys) w
 | 0, m, _, t, xs, ys, w, h, _ => by simp [okS] at h
 | n + 1, 0, hm, t, xs, ys, w, h, k => by omega
 | n + 1, m + 1, hm, t, xs, ys, w, h, k => by
  unfold okS at h k
  cases hu : P.underlying t with
  | none => simp [hu] at h
  | some ds =>
   simp only [hu] at h k
   cases ds <;> simp only [qbE] at h k
   case int kk =>
    split at h
    ·rename_i k1 a
     split at k
     ·rename_i k2 b
      have e1 : kk = k1 := qz
      have e2 : kk = k2 := by simpa using k
      subst e1; subst e2
      have hr := run_equalIn_int (P := P) w m t kk kk a b hu
      simp only [mkV, hu, List.headD_cons, hr]
      congr 1
      rw [qbX, zaN]; simp
     ·cases k
    ·cases h
   case bool =>
    split at h
    ·rename_i a
     split at k
     ·rename_i b
      have hr := run_equalIn_bool' (P := P) w m t a b hu
      simp only [mkV, hu, List.headD_cons, hr]
      congr 1
      rw [qbX, zaN]; simp
     ·cases k
    ·cases h
   case string =>
    split at h
    ·rename_i a
     split at k
     ·rename_i b
      have hr := run_equalIn_string (P := P) w m t a b hu
      rw [ze0] at hr
      simp only [mkV, hu, List.headD_cons, hr]
      congr 1
      rw [qbX, zaN]; simp
     ·cases k
    ·cases h
   case struct fs =>
    simp only [qbv, qcn] at h k
    have hfo : P.fieldsOf t = fs := by unfold Program.fieldsOf; rw [hu]
    have hr := run_equalIn_agg (P := P) w m t xs.toArray ys.toArray (by rw [hfo]; exact hu) h.1
    simp only [mkV, hu, hr, hfo]
    have := zgQ (m := m) (zfl n m qp) xs.toArray ys.toArray fs.toList 0 w (by simpa using h.2) (by simpa using k.2)
    simpa using this
def zcc : List AV → Option (List Value)
 | [] => some []
 | .p (.v x) :: l => (zcc l).map (x :: ·)
 | _ :: _ => none
theorem zdI {S : Nat → Prop} {m : Nat → Option Value} {w : World} : ∀ {cs : List AV} {xs us : List Value}, zcc cs = some xs → RepL S m w cs us → us = xs
 | [], xs, us, h, hr => by
  simp only [zcc, Option.some.injEq] at h
  simp only [RepL] at hr
  rw [hr, ← h]
 | c :: cs, xs, us, h, hr => by
  simp only [RepL] at hr
  obtain ⟨u, us, rfl, h2, h3⟩ := hr
  cases c with
  | p x =>
   cases x with
   | v x =>
    simp only [zcc] at h
    cases hq : zcc cs with
    | none => simp [hq] at h
    | some zs =>
     simp only [hq, qcQ, Option.some.injEq] at h
     rw [za8 h2, zdI hq h3, h]
   | _ => simp [zcc] at h
  | _ => simp [zcc] at h
section
variable {P : Program} {d : Option Tmp} {ty : TypeId} {pos : String} {af : Array Edge} {g : Option (Nat × Bool)}
theorem ziD {op : BinOp} {t yt : TypeId} {x y : Operand} {cs ds : List AV} {xs ys : List Value} {fs : Array Field} (hop : op = .eql ∨ op = .neq) (hu : P.underlying t = some (.struct fs)) (hx : zcc cs = some xs) (hy : zcc ds = some ys) (hg : P.eqGuardType P.depth t = false) (h1 : okS P 20 t xs = true) (h2 : okS P 20 t ys = true) :
 AOp P ⟨d, .binOp op t x y yt, ty, pos, af, g⟩ [.agg cs, .agg ds] [] [] (.p (.v (.bool (if op = .eql then eqL xs ys else !eqL xs ys)))) :=
 zaC fun S m w ev hr => by
  obtain ⟨k1, k2⟩ := zcj (u := ev x) (v := ev y) hr
  simp only [Rep] at k1 k2
  obtain ⟨us, a1, a2, _⟩ := k1
  obtain ⟨vs, b1, b2, _⟩ := k2
  obtain rfl := zdI hx a2
  obtain rfl := zdI hy b2
  have hq := zfl (P := P) 20 10000 qp t us vs w h1 h2
  simp only [mkV, hu] at hq
  have hgd := run_eqGuard_agg (P := P) w op t x y us.toArray vs.toArray hg
  refine ⟨.bool (if op = .eql then eqL us vs else !eqL us vs), ?_, za1 rfl⟩
  rcases hop with rfl | rfl
  ·simp only [execOp, a1, b1, qbp, hgd, qbi, run_eql_struct, hq, qbq, if_true]
  ·simp only [execOp, a1, b1, qbp, hgd, qbi, run_neq_struct, hq, qbq, reduceCtorEq, if_false]
theorem zfm {t yt : TypeId} {x y : Operand} {cs ds : List AV} {xs ys : List Value} {fs : Array Field} (hu : P.underlying t = some (.struct fs)) (hx : zcc cs = some xs) (hy : zcc ds = some ys) (hg : P.eqGuardType P.depth t = false) (h1 : okS P 20 t xs = true) (h2 : okS P 20 t ys = true) :
 AOp P ⟨d, .binOp .eql t x y yt, ty, pos, af, g⟩ [.agg cs, .agg ds] [] [] (.p (.v (.bool (eqL xs ys)))) := ziD (.inl rfl) hu hx hy hg h1 h2
theorem zcN {t yt : TypeId} {x y : Operand} {cs ds : List AV} {xs ys : List Value} {fs : Array Field} (hu : P.underlying t = some (.struct fs)) (hx : zcc cs = some xs) (hy : zcc ds = some ys) (hg : P.eqGuardType P.depth t = false) (h1 : okS P 20 t xs = true) (h2 : okS P 20 t ys = true) :
 AOp P ⟨d, .binOp .neq t x y yt, ty, pos, af, g⟩ [.agg cs, .agg ds] [] [] (.p (.v (.bool (!eqL xs ys)))) := ziD (.inr rfl) hu hx hy hg h1 h2
end
def Slot.ren (ρ : Nat → Nat) : Slot → Slot
 | .live ob => .live (ob.ren ρ)
 | s => s
theorem ORep.ren {B : Nat} {S : Nat → Prop} {w : World} {m m' : Nat → Option Value} {ρ : Nat → Nat} (hm : ∀ o v, m o = some v → m' (ρ o) = some v) {ob : AObj} {v : Value} (h : ORep B S m w ob v) : ORep B S m' w (ob.ren ρ) v := by
 cases ob with
 | box ty cs =>
  obtain ⟨b, us, g1, g2, g3, g4, g5⟩ := h
  exact ⟨b, us, g1, g2, RepL.ren hm _ _ g3, g4, g5⟩
 | row e size n cs => exact h
 | map es => exact h
 | rowA e size n c cs =>
  obtain ⟨us, g1, g2⟩ := h
  exact ⟨us, RepL.ren hm _ _ g1, g2⟩
def FnO (P : Program) (f : FuncId) (args : List AV) (rds wrs : List (Nat × Slot)) (res : AV) : Prop :=
 ∀ (w0 : World) (A S : Nat → Prop) (m : Nat → Option Value) (heap : Nat → Slot) (w : World) (us : List Value), Mem w0 A S m heap w → RepL S m w args us → (∀ p ∈ rds, heap p.1 = p.2) →
  Calls P f us.toArray w fun e w' => ∃ v, e = .returned v ∧ ∃ S' m', Rep S' m' w' res v ∧ Mem w0 A S' m' (updL heap wrs) w' ∧ Grow S m w S' m' w'
theorem zeh {heap : Nat → Slot} : ∀ {l : List (Nat × Slot)}, (∀ p ∈ l, heap p.1 = p.2) → updL heap l = heap
 | [], _ => rfl
 | (n, s) :: l, h => by
  funext o
  simp only [updL]
  by_cases e : o = n
  ·subst e
   simp only [qca, cond_true]; exact (h (o, s) qC).symm
  ·simp only [nbeq e, cond_false]
   rw [zeh fun p hp => h p (by simp [hp])]
structure FinO (P : Program) (rs : List ResultVar) (res : AV) (heap : Nat → Slot) (wrs : List (Nat × Slot)) (e : Exit) (st : St) : Prop where
 ends : e = .normal ∨ e = .ret
 ex : ∃ vals : List AV, ResIs P st rs vals ∧ oneA vals = res
 hp : Rds st wrs
 rest : ∀ o, (wrs.any fun p => Nat.beq o p.1) = false → st.heap o = heap o
theorem fnO_intro {P : Program} {f : FuncId} {fn : Func} {c : Code} {args : List AV} {res : AV} {rds wrs : List (Nat × Slot)} (hf : P.funcs[f]? = some fn) (hb : fn.body = some c) (hn : args.length ≤ fn.ntmps)
 (h : ∀ w0 A heap, awp ⟨P, w0, A, fn.ntmps⟩ c (FinO P fn.results.toList res heap wrs) ⟨zcV (zgY 0 args), updL heap rds⟩) : FnO P f args rds wrs res := by
 intro w0 A S m heap w us hm hr hrd
 refine calls_of_wp hf hb ?_
 have hl := hr.length
 have hup := zeh hrd
 let C : Ctx := ⟨A, fun S' m' w' => Grow S m w S' m' w', fun S1 m1 w1 S2 m2 w2 g k => k.trans g⟩
 refine wp_mono (h w0 C heap _ w ⟨⟨S, m, by rw [hup]; exact hm, Grow.refl _ _ _, fun t => ?_⟩, ?_, rfl⟩) ?_
 ·show Rep S _ w (zcV (zgY 0 args) t) _
  exact jaa
 ·simp only [qcR, qcj, Array.size_replicate]; omega
 ·rintro e a w' ⟨st, h1, ⟨⟨S', m', hm', hg, ht⟩, hsz, hd⟩⟩
  obtain ⟨vals, hall, hone⟩ := h1.ex
  obtain ⟨us', hrun, hrep⟩ := zem hm' ht hall
  have hres := oneA_rep hrep
  rw [hone] at hres
  have hheap : st.heap = updL heap wrs := by
   funext o
   by_cases ho : o ∈ wrs.map Prod.fst
   ·have hs := zeh h1.hp.all
    rw [← hs]
    exact ziJ ho
   ·rw [zaz ho]
    refine h1.rest o ?_
    rw [List.any_eq_false]
    intro p hp
    have := nbeq fun e : o = p.1 => ho (qbo.2 ⟨p, hp, e.symm⟩)
    simp [this]
  rw [hheap] at hm'
  rcases h1.ends with rfl | rfl
  ·exact ⟨hd, _, ze6 hrun, _, rfl, S', m', hres, hm', hg⟩
  ·exact ⟨hd, _, ze6 hrun, _, rfl, S', m', hres, hm', hg⟩
section
variable {P : Program} {d : Option Tmp} {ty : TypeId} {pos : String} {af : Array Edge} {g : Option (Nat × Bool)} {x : Operand} {args : Array Operand} {ts : Array TypeId} {f : FuncId} {fn : Func}
theorem a_callO {xs cs : List AV} {rds wrs : List (Nat × Slot)} {res : AV} (hf : P.funcs[f]? = some fn) (hb : fn.body.isNone = false) (hn : (fn.name == "runtime.NumGoroutine") = false) (hC : FnO P f (xs ++ cs) rds wrs res) :
 AOp P ⟨d, .call { callee := .value x, args := args, argTypes := ts }, ty, pos, af, g⟩ (.fn f cs :: xs) rds wrs res := by
 intro w0 A S m heap w ev hm hR hrd
 obtain ⟨us, e1, e2⟩ := zfj hR
 unfold Out
 rw [zdZ hf hb hn e1]
 have e4 : args.map ev ++ us.toArray = ((args.map ev).toList ++ us).toArray := qC
 rw [e4]
 exact hC w0 A S m heap w _ hm e2 hrd
end
section
variable {P : Program} {ops : Array Oper} {K : List Foot → St → Prop} {l : List Oper} {fs : List Foot} {st : St} {d : Option Tmp} {ty : TypeId} {pos : String} {af : Array Edge} {gd : Option (Nat × Bool)}
end
section
variable {P : Program} {ops : Array Oper} {K : List Foot → St → Prop} {l : List Oper} {fs : List Foot} {st : St} {d : Option Tmp} {ty : TypeId} {pos : String} {af : Array Edge} {gd : Option (Nat × Bool)}
theorem zaL {x : Operand} {args : Array Operand} {ts : Array TypeId} {f : FuncId} {fn : Func} {aSs cs : List AV} {res : AV} {rds wrs : List (Nat × Slot)} (hC : FnO P f aSs rds wrs res) (hx : st.ev x = .fn f cs) (hxs : args.toList.map st.ev ++ cs = aSs) (hf : P.funcs[f]? = some fn) (hb : fn.body.isNone = false) (hn : (fn.name == "runtime.NumGoroutine") = false)
 (hrd : Rds st rds) (hg : zau ops ⟨d, .call { callee := .value x, args := args, argTypes := ts }, ty, pos, af, gd⟩ st = some true)
 (k : ARun P ops K l (fs ++ [(rds.map Prod.fst, wrs.map Prod.fst)]) ((st.upd wrs).put d res)) :
 ARun P ops K (⟨d, .call { callee := .value x, args := args, argTypes := ts }, ty, pos, af, gd⟩ :: l) fs st := by
 subst hxs
 have hop := a_callO (P := P) (d := d) (ty := ty) (pos := pos) (af := af) (g := gd) (x := x) (args := args) (ts := ts) hf hb hn hC
 refine zab hop ?_ hg hrd k
 rw [← hx]
 simp [Op.operands, Call.operands]
end
def ReO (st st' : St) : Prop := ∀ (w0 : World) (A : Ctx) (nt : Nat) (a : Act) (w : World), Sim w0 A nt st a w → Sim w0 A nt st' a w
theorem zaX {G : Env} {c : Code} {Q : Exit → St → Prop} {st st' : St} (r : ReO st st') (h : awp G c Q st') : awp G c Q st := fun a w hs => h a w (r _ _ _ a w hs)
theorem awp_loopO {G : Env} {Q : Exit → St → Prop} {st : St} {c : Code} (I : Nat → St → Prop) (n : Nat) (h0 : ∃ st1, ReO st st1 ∧ I n st1) (round : ∀ n st, I n st → awp G c (Thn (fun st' => ∃ n' < n, ∃ st1, ReO st' st1 ∧ I n' st1) Q) st) : awp G (.loop c) Q st :=
 awp_loop (fun n st => ∃ st1, ReO st st1 ∧ I n st1) h0 fun n st ⟨st1, h1, h2⟩ => zaX h1 (round n st1 h2)
def LeTO (st : St) : List (Nat × AV) → Prop
 | [] => True
 | (t, x) :: l => (st.tmps t = x) ∧ LeTO st l
theorem LeTO.mem {st : St} : ∀ {l : List (Nat × AV)}, LeTO st l → ∀ p ∈ l, st.tmps p.1 = p.2
 | [], _, p, hp => by cases hp
 | (t, x) :: l, h, p, hp => by
  rcases qbm.1 hp with rfl | hp
  ·exact h.1
  ·exact LeTO.mem h.2 p hp
theorem zdM {st : St} (ts : List (Nat × AV)) (heap : Nat → Slot) (h1 : LeTO st ts) (h2 : ∀ o, st.heap o = heap o ∨ heap o = .dead) : ReO st ⟨zcV ts, heap⟩ := by
 rintro w0 A nt a w ⟨⟨S, m, hm, hj, ht⟩, hsz, hd⟩
 refine ⟨⟨S, m, ⟨hm.bel, hm.sA, hm.sW, fun o ho => ?_, fun o ob ho => ?_, fun o o' ob ob' v v' b ho ho' => ?_, hm.gl⟩, hj, fun t => ?_⟩, hsz, hd⟩
 ·rcases h2 o with h | h
  ·exact hm.un o (h.trans ho)
  ·have ho' : heap o = .un := ho
   rw [h] at ho'; cases ho'
 ·rcases h2 o with h | h
  ·exact hm.live o ob (h.trans ho)
  ·have ho' : heap o = .live ob := ho
   rw [h] at ho'; cases ho'
 ·rcases h2 o with h | h
  ·rcases h2 o' with h' | h'
   ·exact hm.inj o o' ob ob' v v' b (h.trans ho) (h'.trans ho')
   ·have k : heap o' = .live ob' := ho'
    rw [h'] at k; cases k
  ·have k : heap o = .live ob := ho
   rw [h] at k; cases k
 ·show Rep _ _ _ (zcV ts t) _
  rcases zhA (l := ts) (t := t) with h | ⟨p, g1, g2, g3⟩
  ·rw [h]; simp only [Rep]
  ·have := LeTO.mem h1 p g1
   rw [← g3, ← this, g2]
   exact ht t
theorem jfb {P : Program} {ops : Array Oper} {K : List Foot → St → Prop} {l : List Oper} {fs : List Foot} {st : St} {o : Oper} {xs : List AV} {r : AV} (h : AOp P o xs [] [] r) (k : ARun P ops K l (fs ++ [([], [])]) (st.put o.dst r)) (hx : o.op.operands.toList.map st.ev = xs := by exact rfl) (hg : zau ops o st = some true := by exact rfl) : ARun P ops K (o :: l) fs st := zaa h hx hg k
theorem jfc {P : Program} {ops : Array Oper} {K : List Foot → St → Prop} {l : List Oper} {fs : List Foot} {st : St} {o : Oper} {xs : List AV} {rds wrs : List (Nat × Slot)} {r : AV} (h : AOp P o xs rds wrs r) (k : ARun P ops K l (fs ++ [(rds.map Prod.fst, wrs.map Prod.fst)]) ((st.upd wrs).put o.dst r)) (hx : o.op.operands.toList.map st.ev = xs := by exact rfl) (hg : zau ops o st = some true := by exact rfl) (hr : Rds st rds := by exact ⟨rfl, trivial⟩) : ARun P ops K (o :: l) fs st := zab h hx hg hr k
abbrev qc (x : ByteArray) : AV := .p (.v (.string x))
abbrev qd (x : Int) : AV := .p (.v (.int .i64 x))
abbrev qe (x : Int) : AV := .p (.v (.int .u32 x))
abbrev qf (x : Bool) : AV := .p (.v (.bool x))
abbrev qg (x : ByteArray) : PV := .v (.string x)
abbrev qh (x : Int) : PV := .v (.int .i64 x)
abbrev qi (x : Int) : PV := .v (.int .u32 x)
abbrev qj (x : TypeId) (c : List AV) : Slot := .live (.box x c)
abbrev qk (x s n : Nat) (c : List PV) : Slot := .live (.row x s n c)
abbrev ql (x k : Nat) (c : List PV) : AV := .p (.sl x k c)
abbrev qm : AV := .p (.v (.slice none 0 0))
theorem qo {α : Type} {l : List α} {i : Nat} (h : i < l.length) : ∃ x, l[i]? = some x := ⟨l[i], List.getElem?_eq_getElem h⟩
open Tryz
theorem sz3 : (prog.info? 3).map (·.size) = some 1 := qr
instance : SZ prog 3 1 := ⟨qr⟩
instance : RW prog 3 false := ⟨_, underlying3, rfl⟩
instance : IK prog 3 .i64 := ⟨underlying3⟩
theorem zc3 : (prog.info? 3).map (fun i => i.zero.map Value.cells) = some (some #[(.int .i64 0)]) := qr
theorem eo3 : zcz prog 3 1 8 = true := qr
instance : RW prog 4 false := ⟨_, underlying4, rfl⟩
instance : BL prog 4 := ⟨underlying4⟩
theorem zr4 : (prog.info? 4).map (·.zero) = some (some (.bool false)) := qr
theorem sz5 : (prog.info? 5).map (·.size) = some 1 := qr
instance : SZ prog 5 1 := ⟨qr⟩
instance : RW prog 5 false := ⟨_, underlying5, rfl⟩
instance : IK prog 5 .u8 := ⟨underlying5⟩
theorem zc5 : (prog.info? 5).map (fun i => i.zero.map Value.cells) = some (some #[(.int .u8 0)]) := qr
theorem eo5 : zcz prog 5 1 1 = true := qr
theorem sz9 : (prog.info? 9).map (·.size) = some 1 := qr
instance : SZ prog 9 1 := ⟨qr⟩
instance : RW prog 9 false := ⟨_, underlying9, rfl⟩
instance : SR prog 9 := ⟨underlying9⟩
theorem zc9 : (prog.info? 9).map (fun i => i.zero.map Value.cells) = some (some #[(.string ⟨#[]⟩)]) := qr
theorem eo9 : zcz prog 9 1 16 = true := qr
theorem sz22 : (prog.info? 22).map (·.size) = some 1 := qr
instance : SZ prog 22 1 := ⟨qr⟩
instance : RW prog 22 false := ⟨_, underlying22, rfl⟩
instance : SL prog 22 48 := ⟨underlying22⟩
theorem sz24 : (prog.info? 24).map (·.size) = some 3 := qr
instance : SZ prog 24 3 := ⟨qr⟩
instance : RW prog 24 true := ⟨_, underlying24, rfl⟩
instance : SU prog 24 := ⟨_, underlying24⟩
instance : ZR prog 24 (.agg #[(.string ⟨#[]⟩), (.int .i64 0), (.slice none 0 0)]) := ⟨qr⟩
theorem zr24 : (prog.info? 24).map (·.zero) = some (some (.agg #[(.string ⟨#[]⟩), (.int .i64 0), (.slice none 0 0)])) := qr
instance : FI prog 24 0 (0, 1) := ⟨qr⟩
instance : FI prog 24 1 (1, 1) := ⟨qr⟩
instance : FI prog 24 2 (2, 1) := ⟨qr⟩
instance : PL prog 24 [(0, 1), (1, 1), (2, 1)] := ⟨qr⟩
theorem sz25 : (prog.info? 25).map (·.size) = some 1 := qr
instance : RW prog 25 false := ⟨_, underlying25, rfl⟩
instance : SL prog 25 84 := ⟨underlying25⟩
theorem sz26 : (prog.info? 26).map (·.size) = some 1 := qr
instance : RW prog 26 false := ⟨_, underlying26, rfl⟩
instance : SL prog 26 60 := ⟨underlying26⟩
instance : SZ prog 27 1 := ⟨qr⟩
instance : RW prog 27 false := ⟨_, underlying27, rfl⟩
instance : SL prog 27 107 := ⟨underlying27⟩
theorem sz28 : (prog.info? 28).map (·.size) = some 1 := qr
instance : SZ prog 28 1 := ⟨qr⟩
instance : RW prog 28 false := ⟨_, underlying28, rfl⟩
instance : IK prog 28 .i64 := ⟨underlying28⟩
theorem sz30 : (prog.info? 30).map (·.size) = some 7 := qr
instance : SZ prog 30 7 := ⟨qr⟩
instance : RW prog 30 true := ⟨_, underlying30, rfl⟩
instance : SU prog 30 := ⟨_, underlying30⟩
instance : ZR prog 30 (.agg #[(.bool false), (.slice none 0 0), (.string ⟨#[]⟩), (.int .i64 0), (.slice none 0 0), (.string ⟨#[]⟩), (.int .i64 0)]) := ⟨qr⟩
theorem zr30 : (prog.info? 30).map (·.zero) = some (some (.agg #[(.bool false), (.slice none 0 0), (.string ⟨#[]⟩), (.int .i64 0), (.slice none 0 0), (.string ⟨#[]⟩), (.int .i64 0)])) := qr
instance : FI prog 30 0 (0, 1) := ⟨qr⟩
theorem fi30_0 : zaD prog 30 0 = some (0, 1) := qr
instance : FI prog 30 1 (1, 1) := ⟨qr⟩
theorem fi30_1 : zaD prog 30 1 = some (1, 1) := qr
instance : FI prog 30 2 (2, 3) := ⟨qr⟩
theorem fi30_2 : zaD prog 30 2 = some (2, 3) := qr
instance : FI prog 30 3 (5, 1) := ⟨qr⟩
theorem fi30_3 : zaD prog 30 3 = some (5, 1) := qr
instance : FI prog 30 4 (6, 1) := ⟨qr⟩
theorem fi30_4 : zaD prog 30 4 = some (6, 1) := qr
instance : PL prog 30 [(0, 1), (1, 1), (2, 3), (5, 1), (6, 1)] := ⟨qr⟩
theorem pl30 : zcT prog 30 = some [(0, 1), (1, 1), (2, 3), (5, 1), (6, 1)] := qr
theorem sz32 : (prog.info? 32).map (·.size) = some 15 := qr
instance : SZ prog 32 15 := ⟨qr⟩
instance : RW prog 32 true := ⟨_, underlying32, rfl⟩
instance : SU prog 32 := ⟨_, underlying32⟩
instance : ZR prog 32 (.agg (List.toArray ((.string ⟨#[]⟩) :: (.int .i64 0) :: (.slice none 0 0) :: (.slice none 0 0) :: (.slice none 0 0) :: (.bool false) :: (.slice none 0 0) :: (.string ⟨#[]⟩) :: (.int .i64 0) :: (.slice none 0 0) :: (.string ⟨#[]⟩) :: (.int .i64 0) :: (.int .i64 0) :: (.int .i64 0) :: (.int .i64 0) :: []))) := ⟨qr⟩
theorem zr32 : (prog.info? 32).map (·.zero) = some (some (.agg (List.toArray ((.string ⟨#[]⟩) :: (.int .i64 0) :: (.slice none 0 0) :: (.slice none 0 0) :: (.slice none 0 0) :: (.bool false) :: (.slice none 0 0) :: (.string ⟨#[]⟩) :: (.int .i64 0) :: (.slice none 0 0) :: (.string ⟨#[]⟩) :: (.int .i64 0) :: (.int .i64 0) :: (.int .i64 0) :: (.int .i64 0) :: [])))) := qr
instance : FI prog 32 0 (0, 3) := ⟨qr⟩
theorem fi32_0 : zaD prog 32 0 = some (0, 3) := qr
instance : FI prog 32 1 (3, 1) := ⟨qr⟩
theorem fi32_1 : zaD prog 32 1 = some (3, 1) := qr
instance : FI prog 32 2 (4, 1) := ⟨qr⟩
theorem fi32_2 : zaD prog 32 2 = some (4, 1) := qr
instance : FI prog 32 3 (5, 7) := ⟨qr⟩
theorem fi32_3 : zaD prog 32 3 = some (5, 7) := qr
instance : FI prog 32 4 (12, 1) := ⟨qr⟩
instance : FI prog 32 5 (13, 1) := ⟨qr⟩
instance : FI prog 32 6 (14, 1) := ⟨qr⟩
instance : PL prog 32 [(0, 3), (3, 1), (4, 1), (5, 7), (12, 1), (13, 1), (14, 1)] := ⟨qr⟩
theorem sz46 : (prog.info? 46).map (·.size) = some 1 := qr
instance : SZ prog 46 1 := ⟨qr⟩
instance : RW prog 46 false := ⟨_, underlying46, rfl⟩
instance : SL prog 46 82 := ⟨underlying46⟩
theorem sz48 : (prog.info? 48).map (·.size) = some 5 := qr
instance : SZ prog 48 5 := ⟨qr⟩
instance : RW prog 48 true := ⟨_, underlying48, rfl⟩
instance : SU prog 48 := ⟨_, underlying48⟩
instance : ZR prog 48 (.agg #[(.string ⟨#[]⟩), (.string ⟨#[]⟩), (.string ⟨#[]⟩), (.int .i64 0), (.slice none 0 0)]) := ⟨qr⟩
theorem zr48 : (prog.info? 48).map (·.zero) = some (some (.agg #[(.string ⟨#[]⟩), (.string ⟨#[]⟩), (.string ⟨#[]⟩), (.int .i64 0), (.slice none 0 0)])) := qr
theorem zc48 : (prog.info? 48).map (fun i => i.zero.map Value.cells) = some (some #[(.string ⟨#[]⟩), (.string ⟨#[]⟩), (.string ⟨#[]⟩), (.int .i64 0), (.slice none 0 0)]) := qr
theorem eo48 : zcz prog 48 5 80 = true := qr
instance : FI prog 48 0 (0, 1) := ⟨qr⟩
theorem zgP : zaD prog 48 0 = some (0, 1) := qr
instance : FI prog 48 1 (1, 1) := ⟨qr⟩
instance : FI prog 48 2 (2, 1) := ⟨qr⟩
instance : FI prog 48 3 (3, 1) := ⟨qr⟩
instance : FI prog 48 4 (4, 1) := ⟨qr⟩
theorem zcQ : zaD prog 48 4 = some (4, 1) := qr
instance : PL prog 48 [(0, 1), (1, 1), (2, 1), (3, 1), (4, 1)] := ⟨qr⟩
instance : SZ prog 51 3 := ⟨qr⟩
instance : RW prog 51 true := ⟨_, underlying51, rfl⟩
instance : SU prog 51 := ⟨_, underlying51⟩
theorem sz53 : (prog.info? 53).map (·.size) = some 11 := qr
instance : SZ prog 53 11 := ⟨qr⟩
instance : RW prog 53 true := ⟨_, underlying53, rfl⟩
instance : SU prog 53 := ⟨_, underlying53⟩
instance : ZR prog 53 (.agg #[(.bool false), (.string ⟨#[]⟩), (.string ⟨#[]⟩), (.int .i64 0), (.int .i64 0), (.int .i64 0), (.int .i64 0), (.bool false), (.int .i64 0), (.int .u64 0), (.bool false)]) := ⟨qr⟩
theorem zr53 : (prog.info? 53).map (·.zero) = some (some (.agg #[(.bool false), (.string ⟨#[]⟩), (.string ⟨#[]⟩), (.int .i64 0), (.int .i64 0), (.int .i64 0), (.int .i64 0), (.bool false), (.int .i64 0), (.int .u64 0), (.bool false)])) := qr
theorem zc53 : (prog.info? 53).map (fun i => i.zero.map Value.cells) = some (some #[(.bool false), (.string ⟨#[]⟩), (.string ⟨#[]⟩), (.int .i64 0), (.int .i64 0), (.int .i64 0), (.int .i64 0), (.bool false), (.int .i64 0), (.int .u64 0), (.bool false)]) := qr
instance : FI prog 53 0 (0, 1) := ⟨qr⟩
instance : FI prog 53 1 (1, 1) := ⟨qr⟩
instance : FI prog 53 2 (2, 1) := ⟨qr⟩
instance : FI prog 53 3 (3, 1) := ⟨qr⟩
theorem ziv : zaD prog 53 3 = some (3, 1) := qr
instance : FI prog 53 4 (4, 1) := ⟨qr⟩
instance : FI prog 53 5 (5, 1) := ⟨qr⟩
instance : FI prog 53 6 (6, 1) := ⟨qr⟩
instance : FI prog 53 7 (7, 3) := ⟨qr⟩
instance : PL prog 53 [(0, 1), (1, 1), (2, 1), (3, 1), (4, 1), (5, 1), (6, 1), (7, 3), (10, 1)] := ⟨qr⟩
theorem sz55 : (prog.info? 55).map (·.size) = some 33 := qr
theorem zr55 : (prog.info? 55).map (·.zero) = some (some (.agg (List.toArray ((.bool false) :: (.string ⟨#[]⟩) :: (.string ⟨#[]⟩) :: (.int .i64 0) :: (.int .i64 0) :: (.int .i64 0) :: (.int .i64 0) :: (.bool false) :: (.int .i64 0) :: (.int .u64 0) :: (.bool false) :: (.bool false) :: (.string ⟨#[]⟩) :: (.string ⟨#[]⟩) :: (.int .i64 0) :: (.int .i64 0) :: (.int .i64 0) :: (.int .i64 0) :: (.bool false) :: (.int .i64 0) :: (.int .u64 0) :: (.bool false) :: (.bool false) :: (.string ⟨#[]⟩) :: (.string ⟨#[]⟩) :: (.int .i64 0) :: (.int .i64 0) :: (.int .i64 0) :: (.int .i64 0) :: (.bool false) :: (.int .i64 0) :: (.int .u64 0) :: (.bool false) :: [])))) := qr
instance : FI prog 55 0 (0, 11) := ⟨qr⟩
theorem fi55_0 : zaD prog 55 0 = some (0, 11) := qr
instance : FI prog 55 1 (11, 11) := ⟨qr⟩
theorem fi55_1 : zaD prog 55 1 = some (11, 11) := qr
instance : FI prog 55 2 (22, 11) := ⟨qr⟩
theorem fi55_2 : zaD prog 55 2 = some (22, 11) := qr
theorem pl55 : zcT prog 55 = some [(0, 11), (11, 11), (22, 11)] := qr
theorem sz57 : (prog.info? 57).map (·.size) = some 5 := qr
theorem zr57 : (prog.info? 57).map (·.zero) = some (some (.agg #[(.bool false), (.int .i64 0), (.string ⟨#[]⟩), (.int .i64 0), (.int .i64 0)])) := qr
instance : FI prog 57 0 (0, 1) := ⟨qr⟩
instance : FI prog 57 1 (1, 1) := ⟨qr⟩
theorem fi57_1 : zaD prog 57 1 = some (1, 1) := qr
instance : FI prog 57 2 (2, 1) := ⟨qr⟩
instance : FI prog 57 3 (3, 1) := ⟨qr⟩
instance : FI prog 57 4 (4, 1) := ⟨qr⟩
theorem pl57 : zcT prog 57 = some [(0, 1), (1, 1), (2, 1), (3, 1), (4, 1)] := qr
theorem sz58 : (prog.info? 58).map (·.size) = some 1 := qr
instance : SZ prog 58 1 := ⟨qr⟩
instance : RW prog 58 false := ⟨_, underlying58, rfl⟩
instance : SL prog 58 93 := ⟨underlying58⟩
theorem sz60 : (prog.info? 60).map (·.size) = some 41 := qr
instance : SZ prog 60 41 := ⟨qr⟩
instance : RW prog 60 true := ⟨_, underlying60, rfl⟩
instance : SU prog 60 := ⟨_, underlying60⟩
instance : ZR prog 60 (.agg (List.toArray ((.string ⟨#[]⟩) :: (.string ⟨#[]⟩) :: (.bool false) :: (.string ⟨#[]⟩) :: (.string ⟨#[]⟩) :: (.int .i64 0) :: (.int .i64 0) :: (.int .i64 0) :: (.int .i64 0) :: (.bool false) :: (.int .i64 0) :: (.int .u64 0) :: (.bool false) :: (.bool false) :: (.string ⟨#[]⟩) :: (.string ⟨#[]⟩) :: (.int .i64 0) :: (.int .i64 0) :: (.int .i64 0) :: (.int .i64 0) :: (.bool false) :: (.int .i64 0) :: (.int .u64 0) :: (.bool false) :: (.bool false) :: (.string ⟨#[]⟩) :: (.string ⟨#[]⟩) :: (.int .i64 0) :: (.int .i64 0) :: (.int .i64 0) :: (.int .i64 0) :: (.bool false) :: (.int .i64 0) :: (.int .u64 0) :: (.bool false) :: (.bool false) :: (.int .i64 0) :: (.string ⟨#[]⟩) :: (.int .i64 0) :: (.int .i64 0) :: (.slice none 0 0) :: []))) := ⟨qr⟩
theorem zr60 : (prog.info? 60).map (·.zero) = some (some (.agg (List.toArray ((.string ⟨#[]⟩) :: (.string ⟨#[]⟩) :: (.bool false) :: (.string ⟨#[]⟩) :: (.string ⟨#[]⟩) :: (.int .i64 0) :: (.int .i64 0) :: (.int .i64 0) :: (.int .i64 0) :: (.bool false) :: (.int .i64 0) :: (.int .u64 0) :: (.bool false) :: (.bool false) :: (.string ⟨#[]⟩) :: (.string ⟨#[]⟩) :: (.int .i64 0) :: (.int .i64 0) :: (.int .i64 0) :: (.int .i64 0) :: (.bool false) :: (.int .i64 0) :: (.int .u64 0) :: (.bool false) :: (.bool false) :: (.string ⟨#[]⟩) :: (.string ⟨#[]⟩) :: (.int .i64 0) :: (.int .i64 0) :: (.int .i64 0) :: (.int .i64 0) :: (.bool false) :: (.int .i64 0) :: (.int .u64 0) :: (.bool false) :: (.bool false) :: (.int .i64 0) :: (.string ⟨#[]⟩) :: (.int .i64 0) :: (.int .i64 0) :: (.slice none 0 0) :: [])))) := qr
theorem zc60 : (prog.info? 60).map (fun i => i.zero.map Value.cells) = some (some (List.toArray ((.string ⟨#[]⟩) :: (.string ⟨#[]⟩) :: (.bool false) :: (.string ⟨#[]⟩) :: (.string ⟨#[]⟩) :: (.int .i64 0) :: (.int .i64 0) :: (.int .i64 0) :: (.int .i64 0) :: (.bool false) :: (.int .i64 0) :: (.int .u64 0) :: (.bool false) :: (.bool false) :: (.string ⟨#[]⟩) :: (.string ⟨#[]⟩) :: (.int .i64 0) :: (.int .i64 0) :: (.int .i64 0) :: (.int .i64 0) :: (.bool false) :: (.int .i64 0) :: (.int .u64 0) :: (.bool false) :: (.bool false) :: (.string ⟨#[]⟩) :: (.string ⟨#[]⟩) :: (.int .i64 0) :: (.int .i64 0) :: (.int .i64 0) :: (.int .i64 0) :: (.bool false) :: (.int .i64 0) :: (.int .u64 0) :: (.bool false) :: (.bool false) :: (.int .i64 0) :: (.string ⟨#[]⟩) :: (.int .i64 0) :: (.int .i64 0) :: (.slice none 0 0) :: []))) := qr
theorem eo60 : zcz prog 60 41 416 = true := qr
instance : FI prog 60 0 (0, 1) := ⟨qr⟩
theorem fi60_0 : zaD prog 60 0 = some (0, 1) := qr
instance : FI prog 60 1 (1, 1) := ⟨qr⟩
instance : FI prog 60 2 (2, 33) := ⟨qr⟩
theorem zhQ : zaD prog 60 2 = some (2, 33) := qr
instance : FI prog 60 3 (35, 5) := ⟨qr⟩
theorem fi60_3 : zaD prog 60 3 = some (35, 5) := qr
instance : FI prog 60 4 (40, 1) := ⟨qr⟩
theorem fi60_4 : zaD prog 60 4 = some (40, 1) := qr
theorem zr76 : (prog.info? 76).map (·.zero) = some (some (.agg #[(.int .i64 0), (.int .i64 0), (.int .i64 0)])) := qr
instance : SZ prog 80 1 := ⟨qr⟩
instance : RW prog 80 false := ⟨_, underlying80, rfl⟩
instance : IK prog 80 .u32 := ⟨underlying80⟩
theorem sz82 : (prog.info? 82).map (·.size) = some 2 := qr
instance : SZ prog 82 2 := ⟨qr⟩
instance : RW prog 82 true := ⟨_, underlying82, rfl⟩
instance : SU prog 82 := ⟨_, underlying82⟩
instance : ZR prog 82 (.agg #[(.int .u32 0), (.int .i64 0)]) := ⟨qr⟩
theorem zr82 : (prog.info? 82).map (·.zero) = some (some (.agg #[(.int .u32 0), (.int .i64 0)])) := qr
theorem zc82 : (prog.info? 82).map (fun i => i.zero.map Value.cells) = some (some #[(.int .u32 0), (.int .i64 0)]) := qr
theorem eo82 : zcz prog 82 2 16 = true := qr
instance : FI prog 82 0 (0, 1) := ⟨qr⟩
instance : FI prog 82 1 (1, 1) := ⟨qr⟩
instance : PL prog 82 [(0, 1), (1, 1)] := ⟨qr⟩
theorem pl82 : zcT prog 82 = some [(0, 1), (1, 1)] := qr
theorem sz84 : (prog.info? 84).map (·.size) = some 4 := qr
instance : SZ prog 84 4 := ⟨qr⟩
instance : RW prog 84 true := ⟨_, underlying84, rfl⟩
instance : SU prog 84 := ⟨_, underlying84⟩
instance : ZR prog 84 (.agg #[(.int .u32 0), (.int .i64 0), (.string ⟨#[]⟩), (.int .i64 0)]) := ⟨qr⟩
theorem zr84 : (prog.info? 84).map (·.zero) = some (some (.agg #[(.int .u32 0), (.int .i64 0), (.string ⟨#[]⟩), (.int .i64 0)])) := qr
theorem zc84 : (prog.info? 84).map (fun i => i.zero.map Value.cells) = some (some #[(.int .u32 0), (.int .i64 0), (.string ⟨#[]⟩), (.int .i64 0)]) := qr
theorem eo84 : zcz prog 84 4 40 = true := qr
instance : FI prog 84 0 (0, 2) := ⟨qr⟩
theorem fi84_0 : zaD prog 84 0 = some (0, 2) := qr
instance : FI prog 84 1 (2, 1) := ⟨qr⟩
theorem fi84_1 : zaD prog 84 1 = some (2, 1) := qr
instance : FI prog 84 2 (3, 1) := ⟨qr⟩
theorem fi84_2 : zaD prog 84 2 = some (3, 1) := qr
instance : PL prog 84 [(0, 2), (2, 1), (3, 1)] := ⟨qr⟩
theorem pl84 : zcT prog 84 = some [(0, 2), (2, 1), (3, 1)] := qr
instance : SZ prog 91 1 := ⟨qr⟩
instance : RW prog 91 false := ⟨_, underlying91, rfl⟩
instance : SL prog 91 5 := ⟨underlying91⟩
theorem sz93 : (prog.info? 93).map (·.size) = some 3 := qr
instance : SZ prog 93 3 := ⟨qr⟩
instance : RW prog 93 true := ⟨_, underlying93, rfl⟩
instance : SU prog 93 := ⟨_, underlying93⟩
instance : ZR prog 93 (.agg #[(.int .u32 0), (.int .u32 0), (.slice none 0 0)]) := ⟨qr⟩
theorem zr93 : (prog.info? 93).map (·.zero) = some (some (.agg #[(.int .u32 0), (.int .u32 0), (.slice none 0 0)])) := qr
theorem zc93 : (prog.info? 93).map (fun i => i.zero.map Value.cells) = some (some #[(.int .u32 0), (.int .u32 0), (.slice none 0 0)]) := qr
theorem eo93 : zcz prog 93 3 32 = true := qr
instance : FI prog 93 0 (0, 1) := ⟨qr⟩
instance : FI prog 93 1 (1, 1) := ⟨qr⟩
instance : FI prog 93 2 (2, 1) := ⟨qr⟩
theorem pl93 : zcT prog 93 = some [(0, 1), (1, 1), (2, 1)] := qr
theorem zdJ : (prog.info? 107).map (·.size) = some 5 := qr
instance : SZ prog 107 5 := ⟨qr⟩
instance : RW prog 107 true := ⟨_, underlying107, rfl⟩
instance : SU prog 107 := ⟨_, underlying107⟩
instance : ZR prog 107 (.agg #[(.int .i64 0), (.string ⟨#[]⟩), (.int .i64 0), (.int .u32 0), (.int .i64 0)]) := ⟨qr⟩
theorem zr107 : (prog.info? 107).map (·.zero) = some (some (.agg #[(.int .i64 0), (.string ⟨#[]⟩), (.int .i64 0), (.int .u32 0), (.int .i64 0)])) := qr
theorem zc107 : (prog.info? 107).map (fun i => i.zero.map Value.cells) = some (some #[(.int .i64 0), (.string ⟨#[]⟩), (.int .i64 0), (.int .u32 0), (.int .i64 0)]) := qr
theorem eo107 : zcz prog 107 5 48 = true := qr
instance : FI prog 107 0 (0, 1) := ⟨qr⟩
instance : FI prog 107 1 (1, 1) := ⟨qr⟩
instance : FI prog 107 2 (2, 1) := ⟨qr⟩
instance : FI prog 107 3 (3, 2) := ⟨qr⟩
theorem fi107_3 : zaD prog 107 3 = some (3, 2) := qr
instance : PL prog 107 [(0, 1), (1, 1), (2, 1), (3, 2)] := ⟨qr⟩
instance : RW prog 112 false := ⟨_, underlying112, rfl⟩
instance : SL prog 112 3 := ⟨underlying112⟩
theorem sz114 : (prog.info? 114).map (·.size) = some 5 := qr
theorem zr114 : (prog.info? 114).map (·.zero) = some (some (.agg #[(.int .i64 0), (.int .i64 0), (.int .i64 0), (.int .i64 0), (.int .i64 0)])) := qr
theorem zdq : (prog.info? 121).map (·.size) = some 1 := qr
instance : SZ prog 121 1 := ⟨qr⟩
instance : RW prog 135 false := ⟨_, underlying135, rfl⟩
instance : SL prog 135 139 := ⟨underlying135⟩
theorem sz139 : (prog.info? 139).map (·.size) = some 2 := qr
instance : SZ prog 139 2 := ⟨qr⟩
instance : RW prog 139 true := ⟨_, underlying139, rfl⟩
instance : SU prog 139 := ⟨_, underlying139⟩
instance : ZR prog 139 (.agg #[(.string ⟨#[]⟩), (.string ⟨#[]⟩)]) := ⟨qr⟩
theorem zc139 : (prog.info? 139).map (fun i => i.zero.map Value.cells) = some (some #[(.string ⟨#[]⟩), (.string ⟨#[]⟩)]) := qr
theorem eo139 : zcz prog 139 2 32 = true := qr
instance : FI prog 139 0 (0, 1) := ⟨qr⟩
instance : FI prog 139 1 (1, 1) := ⟨qr⟩
instance : PL prog 139 [(0, 1), (1, 1)] := ⟨qr⟩
theorem zr154 : (prog.info? 154).map (·.zero) = some (some (.agg (List.toArray ((.bool false) :: (.string ⟨#[]⟩) :: (.string ⟨#[]⟩) :: (.int .i64 0) :: (.int .i64 0) :: (.int .i64 0) :: (.int .i64 0) :: (.bool false) :: (.int .i64 0) :: (.int .u64 0) :: (.bool false) :: (.bool false) :: (.string ⟨#[]⟩) :: (.string ⟨#[]⟩) :: (.int .i64 0) :: (.int .i64 0) :: (.int .i64 0) :: (.int .i64 0) :: (.bool false) :: (.int .i64 0) :: (.int .u64 0) :: (.bool false) :: (.bool false) :: (.string ⟨#[]⟩) :: (.string ⟨#[]⟩) :: (.int .i64 0) :: (.int .i64 0) :: (.int .i64 0) :: (.int .i64 0) :: (.bool false) :: (.int .i64 0) :: (.int .u64 0) :: (.bool false) :: [])))) := qr
theorem sz162 : (prog.info? 162).map (·.size) = some 2 := qr
theorem sz164 : (prog.info? 164).map (·.size) = some 5 := qr
instance : SZ prog 164 5 := ⟨qr⟩
instance : ZR prog 164 (.agg #[(.int .u32 0), (.int .i64 0), (.string ⟨#[]⟩), (.pointer none), (.pointer none)]) := ⟨qr⟩
instance : FI prog 164 0 (0, 2) := ⟨qr⟩
theorem zcs : zaD prog 164 0 = some (0, 2) := qr
instance : FI prog 164 1 (2, 1) := ⟨qr⟩
theorem fi164_1 : zaD prog 164 1 = some (2, 1) := qr
instance : FI prog 164 2 (3, 2) := ⟨qr⟩
theorem zdk : zaD prog 164 2 = some (3, 2) := qr
instance : PL prog 164 [(0, 2), (2, 1), (3, 2)] := ⟨qr⟩
instance : RW prog 167 false := ⟨_, underlying167, rfl⟩
instance : SL prog 167 53 := ⟨underlying167⟩
instance : RW prog 168 false := ⟨_, underlying168, rfl⟩
instance : SL prog 168 9 := ⟨underlying168⟩
theorem sz174 : (prog.info? 174).map (·.size) = some 11 := qr
theorem zr174 : (prog.info? 174).map (·.zero) = some (some (.agg #[(.string ⟨#[]⟩), (.string ⟨#[]⟩), (.string ⟨#[]⟩), (.string ⟨#[]⟩), (.string ⟨#[]⟩), (.string ⟨#[]⟩), (.string ⟨#[]⟩), (.string ⟨#[]⟩), (.string ⟨#[]⟩), (.string ⟨#[]⟩), (.string ⟨#[]⟩)])) := qr
instance : RW prog 191 false := ⟨_, underlying191, rfl⟩
instance : IK prog 191 .u64 := ⟨underlying191⟩
theorem zr209 : (prog.info? 209).map (·.zero) = some (some (.agg #[(.string ⟨#[]⟩), (.string ⟨#[]⟩)])) := qr
theorem zr212 : (prog.info? 212).map (·.zero) = some (some (.agg #[(.int .u32 0), (.int .i64 0), (.int .u32 0), (.int .i64 0)])) := qr
instance : FU prog 7 f7 := ⟨func7⟩
instance : FU prog 8 f8 := ⟨func8⟩
instance : FU prog 9 f9 := ⟨func9⟩
instance : FU prog 10 f10 := ⟨func10⟩
instance : FU prog 11 f11 := ⟨func11⟩
instance : FU prog 12 f12 := ⟨func12⟩
instance : FU prog 13 f13 := ⟨func13⟩
instance : FU prog 14 f14 := ⟨func14⟩
instance : FU prog 16 f16 := ⟨func16⟩
instance : FU prog 18 f18 := ⟨func18⟩
instance : FU prog 19 f19 := ⟨func19⟩
instance : FU prog 21 f21 := ⟨func21⟩
instance : FU prog 22 f22 := ⟨func22⟩
instance : FU prog 23 f23 := ⟨func23⟩
instance : FU prog 24 f24 := ⟨func24⟩
instance : FU prog 25 f25 := ⟨func25⟩
instance : FU prog 26 f26 := ⟨func26⟩
instance : FU prog 27 f27 := ⟨func27⟩
instance : FU prog 28 f28 := ⟨func28⟩
instance : FU prog 29 f29 := ⟨func29⟩
instance : FU prog 30 f30 := ⟨func30⟩
instance : FU prog 31 f31 := ⟨func31⟩
instance : FU prog 32 f32 := ⟨func32⟩
instance : FU prog 33 f33 := ⟨func33⟩
instance : FU prog 34 f34 := ⟨func34⟩
instance : FU prog 35 f35 := ⟨func35⟩
instance : FU prog 37 f37 := ⟨func37⟩
instance : FU prog 38 f38 := ⟨func38⟩
instance : FU prog 39 f39 := ⟨func39⟩
instance : FU prog 40 f40 := ⟨func40⟩
instance : FU prog 41 f41 := ⟨func41⟩
instance : FU prog 42 f42 := ⟨func42⟩
instance : FU prog 43 f43 := ⟨func43⟩
instance : FU prog 44 f44 := ⟨func44⟩
instance : FU prog 45 f45 := ⟨func45⟩
instance : FU prog 46 f46 := ⟨func46⟩
instance : FU prog 47 f47 := ⟨func47⟩
instance : FU prog 48 f48 := ⟨func48⟩
instance : FU prog 50 f50 := ⟨func50⟩
instance : FU prog 51 f51 := ⟨func51⟩
instance : FU prog 52 f52 := ⟨func52⟩
instance : FU prog 53 f53 := ⟨func53⟩
instance : FU prog 54 f54 := ⟨func54⟩
instance : FU prog 55 f55 := ⟨func55⟩
instance : FU prog 56 f56 := ⟨func56⟩
instance : FU prog 57 f57 := ⟨func57⟩
instance : FU prog 58 f58 := ⟨func58⟩
instance : FU prog 59 f59 := ⟨func59⟩
instance : FU prog 60 f60 := ⟨func60⟩
instance : FU prog 61 f61 := ⟨func61⟩
instance : FU prog 62 f62 := ⟨func62⟩
instance : FU prog 63 f63 := ⟨func63⟩
instance : FU prog 64 f64 := ⟨func64⟩
instance : FU prog 65 f65 := ⟨func65⟩
instance : FU prog 66 f66 := ⟨func66⟩
instance : FU prog 67 f67 := ⟨func67⟩
instance : FU prog 68 f68 := ⟨func68⟩
instance : FU prog 69 f69 := ⟨func69⟩
instance : FU prog 70 f70 := ⟨func70⟩
instance : FU prog 71 f71 := ⟨func71⟩
instance : FU prog 72 f72 := ⟨func72⟩
instance : FU prog 73 f73 := ⟨func73⟩
instance : FU prog 74 f74 := ⟨func74⟩
instance : FU prog 75 f75 := ⟨func75⟩
instance : FU prog 76 f76 := ⟨func76⟩
instance : FU prog 77 f77 := ⟨func77⟩
instance : FU prog 78 f78 := ⟨func78⟩
instance : FU prog 79 f79 := ⟨func79⟩
instance : FU prog 80 f80 := ⟨func80⟩
instance : FU prog 81 f81 := ⟨func81⟩
instance : FU prog 82 f82 := ⟨func82⟩
instance : FU prog 83 f83 := ⟨func83⟩
instance : FU prog 84 f84 := ⟨func84⟩
instance : FU prog 85 f85 := ⟨func85⟩
instance : FU prog 86 f86 := ⟨func86⟩
instance : FU prog 87 f87 := ⟨func87⟩
instance : FU prog 88 f88 := ⟨func88⟩
instance : FU prog 90 f90 := ⟨func90⟩
instance : FU prog 91 f91 := ⟨func91⟩
instance : FU prog 92 f92 := ⟨func92⟩
instance : FU prog 93 f93 := ⟨func93⟩
instance : FU prog 94 f94 := ⟨func94⟩
instance : FU prog 95 f95 := ⟨func95⟩
instance : FU prog 96 f96 := ⟨func96⟩
instance : FU prog 97 f97 := ⟨func97⟩
instance : FU prog 98 f98 := ⟨func98⟩
instance : FU prog 99 f99 := ⟨func99⟩
instance : FU prog 100 f100 := ⟨func100⟩
instance : FU prog 101 f101 := ⟨func101⟩
instance : FU prog 102 f102 := ⟨func102⟩
instance : FU prog 103 f103 := ⟨func103⟩
instance : FU prog 104 f104 := ⟨func104⟩
instance : FU prog 105 f105 := ⟨func105⟩
instance : FU prog 106 f106 := ⟨func106⟩
instance : FU prog 107 f107 := ⟨func107⟩
instance : FU prog 108 f108 := ⟨func108⟩
instance : FU prog 109 f109 := ⟨func109⟩
instance : FU prog 110 f110 := ⟨func110⟩
instance : FU prog 111 f111 := ⟨func111⟩
instance : FU prog 112 f112 := ⟨func112⟩
instance : FU prog 113 f113 := ⟨func113⟩
instance : FU prog 114 f114 := ⟨func114⟩
instance : FU prog 115 f115 := ⟨func115⟩
instance : FU prog 116 f116 := ⟨func116⟩
instance : FU prog 117 f117 := ⟨func117⟩
instance : FU prog 118 f118 := ⟨func118⟩
instance : FU prog 119 f119 := ⟨func119⟩
instance : FU prog 120 f120 := ⟨func120⟩
instance : FU prog 121 f121 := ⟨func121⟩
instance : FU prog 122 f122 := ⟨func122⟩
instance : FU prog 123 f123 := ⟨func123⟩
instance : FU prog 124 f124 := ⟨func124⟩
instance : FU prog 125 f125 := ⟨func125⟩
instance : FU prog 126 f126 := ⟨func126⟩
instance : FU prog 127 f127 := ⟨func127⟩
instance : FU prog 128 f128 := ⟨func128⟩
instance : FU prog 129 f129 := ⟨func129⟩
instance : FU prog 130 f130 := ⟨func130⟩
instance : FU prog 132 f132 := ⟨func132⟩
instance : FU prog 133 f133 := ⟨func133⟩
instance : FU prog 135 f135 := ⟨func135⟩
instance : FU prog 136 f136 := ⟨func136⟩
instance : FU prog 137 f137 := ⟨func137⟩
instance : FU prog 138 f138 := ⟨func138⟩
instance : FU prog 139 f139 := ⟨func139⟩
instance : FU prog 140 f140 := ⟨func140⟩
instance : FU prog 141 f141 := ⟨func141⟩
instance : FU prog 148 f148 := ⟨func148⟩
instance : FU prog 149 f149 := ⟨func149⟩
instance : FU prog 150 f150 := ⟨func150⟩
instance : FU prog 151 f151 := ⟨func151⟩
instance : FU prog 152 f152 := ⟨func152⟩
instance : FU prog 153 f153 := ⟨func153⟩
instance : FU prog 154 f154 := ⟨func154⟩
instance : FU prog 155 f155 := ⟨func155⟩
instance : FU prog 156 f156 := ⟨func156⟩
instance : FU prog 157 f157 := ⟨func157⟩
instance : FU prog 158 f158 := ⟨func158⟩
instance : FU prog 159 f159 := ⟨func159⟩
instance : FU prog 160 f160 := ⟨func160⟩
instance : FU prog 162 f162 := ⟨func162⟩
instance : FU prog 163 f163 := ⟨func163⟩
instance : FU prog 164 f164 := ⟨func164⟩
instance : FU prog 165 f165 := ⟨func165⟩
instance : FU prog 166 f166 := ⟨func166⟩
instance : FU prog 167 f167 := ⟨func167⟩
instance : FU prog 170 f170 := ⟨func170⟩
instance : FU prog 171 f171 := ⟨func171⟩
instance : FU prog 175 f175 := ⟨func175⟩
instance : FU prog 176 f176 := ⟨func176⟩
instance : FU prog 177 f177 := ⟨func177⟩
instance : FU prog 178 f178 := ⟨func178⟩
instance : FU prog 189 f189 := ⟨func189⟩
instance : FU prog 190 f190 := ⟨func190⟩
instance : FU prog 193 f193 := ⟨func193⟩
instance : FU prog 202 f202 := ⟨func202⟩
instance : FU prog 207 f207 := ⟨func207⟩
theorem F40 : type_of% func40 := func40
theorem F63 : type_of% func63 := func63
theorem F128 : type_of% func128 := func128
theorem F130 : type_of% func130 := func130
theorem U3 : type_of% underlying3 := underlying3
theorem U4 : type_of% underlying4 := underlying4
theorem U5 : type_of% underlying5 := underlying5
theorem U9 : type_of% underlying9 := underlying9
theorem U22 : type_of% underlying22 := underlying22
theorem U24 : type_of% underlying24 := underlying24
theorem U25 : type_of% underlying25 := underlying25
theorem U26 : type_of% underlying26 := underlying26
theorem U27 : type_of% underlying27 := underlying27
theorem U32 : type_of% underlying32 := underlying32
theorem U46 : type_of% underlying46 := underlying46
theorem U48 : type_of% underlying48 := underlying48
theorem U53 : type_of% underlying53 := underlying53
theorem U55 : type_of% underlying55 := underlying55
theorem U57 : type_of% underlying57 := underlying57
theorem U58 : type_of% underlying58 := underlying58
theorem U60 : type_of% underlying60 := underlying60
theorem U80 : type_of% underlying80 := underlying80
theorem U82 : type_of% underlying82 := underlying82
theorem U84 : type_of% underlying84 := underlying84
theorem U91 : type_of% underlying91 := underlying91
theorem U93 : type_of% underlying93 := underlying93
theorem U107 : type_of% underlying107 := underlying107
theorem U112 : type_of% underlying112 := underlying112
theorem U121 : type_of% underlying121 := underlying121
theorem U135 : type_of% underlying135 := underlying135
theorem U139 : type_of% underlying139 := underlying139
theorem U162 : type_of% underlying162 := underlying162
theorem U168 : type_of% underlying168 := underlying168
theorem U174 : type_of% underlying174 := underlying174
end Go.Proofs.YtlfjpippeeikdaaGreatDoor
