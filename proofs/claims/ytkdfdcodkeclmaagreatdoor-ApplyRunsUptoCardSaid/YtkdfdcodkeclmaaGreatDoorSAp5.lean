/- apply.one, over data: a net is moved. -/
import Derived.Test.YtkdfdcodkeclmaaGreatDoorSAp4
namespace Go.Proofs.YtkdfdcodkeclmaaGreatDoor
open Tryz
open Go.RowKit Go.Sort
set_option linter.unusedVariables false
set_option linter.unusedSimpArgs false
set_option maxRecDepth 100000
section
variable {P : Program} {ops : Array Oper} {K : List Foot → St → Prop} {l : List Oper} {fs : List Foot} {st : St} {d : Option Tmp} {ty : TypeId} {pos : String} {af : Array Edge} {gd : Option (Nat × Bool)}
theorem r_callO1 {x : Operand} {args : Array Operand} {ts : Array TypeId} {f : FuncId} {fn : Func} {zs cs : List AV} {res : AV} {rds wrs : List (Nat × Slot)} {F1 F2 : List Nat} (hC : FnO P f zs rds wrs res) (hx : st.ev x = .fn f cs) (hxs : args.toList.map st.ev ++ cs = zs) (hf : P.funcs[f]? = some fn) (hb : fn.body.isNone = false) (hn : (fn.name == "runtime.NumGoroutine") = false)
  (hrd : Rds st rds) (hg : zbu ops ⟨d, .call { callee := .value x, args := args, argTypes := ts }, ty, pos, af, gd⟩ st = some true) (h1 : rds.map Prod.fst = F1) (h2 : wrs.map Prod.fst = F2)
  (k : ARun P ops K l (fs ++ [(F1, F2)]) ((st.upd wrs).put d res)) :
  ARun P ops K (⟨d, .call { callee := .value x, args := args, argTypes := ts }, ty, pos, af, gd⟩ :: l) fs st := by
 subst h1 h2
 exact za4 hC hx hxs hf hb hn hrd hg k
end
def sA (k : Int) (t : ByteArray) (n a b : Int) : List AV := [.p (.v (.int .i64 k)), .p (.v (.string t)), .p (.v (.int .i64 n)), .p (.v (.int .u32 a)), .p (.v (.int .i64 b))]
def oN (pt t : ByteArray) (n a b : Int) : List (Nat × Slot) := [(3, .live (.box 29 (sA 10 t n a b))), (4, .live (.box 9 [.p (.v (.string pt))])), (5, .live (.box 29 (sA 10 t n a b)))]
theorem mvN_nd3 : ∀ n, n < 7 → (0 :: 1 :: (List.range n).map fun i => 0 + i + 1000).Nodup := by decide
theorem mvN_nd4 : ∀ n, n < 7 → (3 :: 4 :: 5 :: mvN n).Nodup := by decide
set_option maxHeartbeats 16000000 in
theorem one10_s (key : ByteArray) (port : Int) (l : List PE) (ok : CF.OK ⟨key, port, l⟩) (pt t : ByteArray) (n a b : Int) (hpt : pt ≠ ⟨#[]⟩) (hJ : peN pt l < l.length) (h6 : l.length ≤ 6) (r : Int) (l' : List PE)
  (hM : FnO prog 54 [.ref 0 0, .p (.v (.string pt)), .agg ((ntC (a, b)).map AV.p)] (mvR key port l) (mvW key port l l') (.p (.v (.int .i64 r)))) :
  FnO prog 22 [.ref 0 0, .p (.v (.string pt)), .agg (sA 10 t n a b)] ((3, .un) :: (4, .un) :: (5, .un) :: mvR key port l) (oN pt t n a b ++ mvW key port l l') (.tup [.p (.v (.string pt)), .p (.v (.int .i64 r))]) := by
 have h7 : l.length < 7 := by omega
 have hnd : (((3, Slot.un) :: (4, .un) :: (5, .un) :: mvR key port l).map Prod.fst).Nodup := by rw [List.map_cons, List.map_cons, List.map_cons, zeO]; exact mvN_nd4 _ h7
 have hG := zfF 10 t n a b qD qD qD
 have hP := peerT_s key port l ok pt _ _ (pcs_V (fun i => i + 1000) l 0) (zdD _ _ _) (by rw [zex]; exact mvN_nd3 _ h7) hpt hJ
 show FnO prog 22 [.ref 0 0, .p (.v (.string pt)), .agg [.p (.v (.int .i64 10)), .p (.v (.string t)), .p (.v (.int .i64 n)), .p (.v (.int .u32 a)), .p (.v (.int .i64 b))]] _ _ _
 refine za1 F22 rfl (qE rfl) fun w0 A heap => ?_
 have hall := zbY (h := heap) hnd
 have er : ∀ o, o ∉ mvN l.length → o ≠ 3 → o ≠ 4 → o ≠ 5 → updL heap ((3, .un) :: (4, .un) :: (5, .un) :: mvR key port l) o = heap o := fun o ho a1 a2 a3 => zaR (by
  rw [List.map_cons, List.map_cons, List.map_cons, zeO]
  simp only [List.mem_cons, not_or]
  exact ⟨a1, a2, a3, ho⟩)
 obtain ⟨H, hH⟩ : ∃ H, updL heap ((3, .un) :: (4, .un) :: (5, .un) :: mvR key port l) = H := ⟨_, rfl⟩
 rw [hH] at hall er ⊢
 have e3 : H 3 = .un := hall (3, .un) qS
 have e4 : H 4 = .un := hall (4, .un) qS
 have e5 : H 5 = .un := hall (5, .un) qS
 have eM : ∀ p ∈ mvR key port l, H p.1 = p.2 := fun p hp => hall p (by simp [hp])
 clear hH hnd hall
 refine zaa ?_
 refine tx ?_
 refine zah (zaK (X := .p _) 4 rfl) rfl rfl ⟨e4, trivial⟩ ?_
 refine zah (zaK (X := .agg _) 5 rfl) rfl rfl ⟨e5, trivial⟩ ?_
 refine aP rfl rfl ?_
 refine aP rfl rfl ?_
 refine zab ?_
 refine zaa (zaa ?_)
 refine tx ?_
 refine zac (zam (r := .ref _ _)) rfl rfl ?_
 refine lN U29 rfl sz29 rfl rfl ⟨rfl, trivial⟩ ?_
 refine za4 hG rfl rfl F49 rfl rfl ⟨e3, trivial⟩ rfl ?_
 refine zac (zam (r := .tup _)) rfl rfl ?_
 refine zac (zal rfl) rfl rfl ?_
 refine zac (zal rfl) rfl rfl ?_
 refine aP rfl rfl ?_
 refine aP rfl rfl ?_
 refine zab ?_
 obtain ⟨G, hGd⟩ : ∃ G : Nat → Slot, G = updL (updL (updL H [(4, .live (.box 9 [.p (.v (.string pt))]))]) [(5, .live (.box 29 (sA 10 t n a b)))]) [(3, .live (.box 29 (sA 10 t n a b)))] := ⟨_, rfl⟩
 have g3 : G 3 = .live (.box 29 (sA 10 t n a b)) := by rw [hGd]; rfl
 have g4 : G 4 = .live (.box 9 [.p (.v (.string pt))]) := by rw [hGd]; rfl
 have g5 : G 5 = .live (.box 29 (sA 10 t n a b)) := by rw [hGd]; rfl
 have ne : ∀ o, o ≠ 3 → o ≠ 4 → o ≠ 5 → G o = H o := fun o a1 a2 a3 => by rw [hGd]; simp only [updL, nbeq a1, nbeq a2, nbeq a3, cond_false]
 have gM : ∀ p ∈ mvR key port l, G p.1 = p.2 := fun p hp => by
  have hm : p.1 ∈ mvN l.length := by rw [← zeO key port l]; exact List.mem_map.2 ⟨p, hp, rfl⟩
  rw [zb1] at hm
  exact (ne p.1 qO qO qO).trans (eM p hp)
 have gr : ∀ o, o ∉ mvN l.length → o ≠ 3 → o ≠ 4 → o ≠ 5 → G o = heap o := fun o ho a1 a2 a3 => (ne o a1 a2 a3).trans (er o ho a1 a2 a3)
 refine zbI (zc6 [(0, .ref 0 0), (4, .ref 4 0), (5, .ref 5 0), (8, .p (.v (.bool false))), (9, .p (.v (.int .i64 0)))] G (by repeat (first | exact trivial | refine ⟨rfl, ?_⟩)) (fun o => .inl (by rw [hGd]; rfl))) ?_
 clear eM e3 e4 e5 er ne
 unfold sA at g5
 have hall7 : ∀ p ∈ (0, D0 key port) :: (1, Slot.live (.rowA 60 5 l.length none (pcs (fun i => i + 1000) 0 l))) :: fams (fun i => i + 1000) 0 l, G p.1 = p.2 := fun p hp => gM p (by
  unfold mvR
  rcases List.mem_cons.1 hp with rfl | hp
  ·simp
  rcases List.mem_cons.1 hp with rfl | hp
  ·simp
  ·simp [hp])
 have hself := zdr hall7
 refine zaa ?_
 refine tx ?_
 refine mP rfl rfl ?_
 refine zab ?_
 refine zaf ?_
 refine zag rfl ?_
 refine zae (zaa (zaa ?_))
 refine tx ?_
 refine fA zav rfl rfl ?_
 refine zah (zb2 U3 rfl rfl) rfl rfl ⟨g5, trivial⟩ ?_
 (first | refine zac zaz rfl rfl ?_ | refine zac zaZ rfl rfl ?_)
 refine zab ?_
 refine zaf ?_
 refine zag rfl ?_
 refine zae (zaa ?_)
 refine tx ?_
 refine zac (zam (r := .ref _ _)) rfl rfl ?_
 refine zah (zb2 U9 rfl rfl) rfl rfl ⟨g4, trivial⟩ ?_
 refine za4 hP rfl rfl F51 rfl rfl (zcJ hall7) rfl ?_
 refine zac (zam (r := .tup _)) rfl rfl ?_
 refine zac (zal rfl) rfl rfl ?_
 refine zac (zal rfl) rfl rfl ?_
 (first | refine zac (zas (r := .ref _ _)) rfl rfl ?_ | refine aP rfl rfl ?_)
 refine aP rfl rfl ?_
 refine zab ?_
 refine zbI (zc6 [(0, .ref 0 0), (4, .ref 4 0), (5, .ref 5 0), (10, .ref 1 (peN pt l * 5)), (11, .p (.v (.int .i64 0)))] G (by repeat (first | exact trivial | refine ⟨rfl, ?_⟩)) (fun o => .inl (congrFun hself o))) ?_
 refine zaa (zaa ?_)
 refine tx ?_
 refine mP rfl rfl ?_
 refine zac zbR rfl rfl ?_
 refine zab ?_
 refine zaf ?_
 refine zag rfl ?_
 refine zae (zaa (zaa ?_))
 refine tx ?_
 refine fA zav rfl rfl ?_
 refine zah (zb2 U3 rfl rfl) rfl rfl ⟨g5, trivial⟩ ?_
 refine zab ?_
 refine zak (zaa ?_)
 refine tx ?_
 (first | refine zac zaz rfl rfl ?_ | refine zac zaZ rfl rfl ?_)
 refine aP rfl rfl ?_
 refine zab ?_
 refine zaf ?_
 refine zag rfl ?_
 refine zaa ?_
 refine tx ?_
 (first | refine zac zaz rfl rfl ?_ | refine zac zaZ rfl rfl ?_)
 refine aP rfl rfl ?_
 refine zab ?_
 refine zaf ?_
 refine zag rfl ?_
 refine zaa ?_
 refine tx ?_
 (first | refine zac zaz rfl rfl ?_ | refine zac zaZ rfl rfl ?_)
 refine aP rfl rfl ?_
 refine zab ?_
 refine zaf ?_
 refine zag rfl ?_
 refine zaa ?_
 refine tx ?_
 (first | refine zac zaz rfl rfl ?_ | refine zac zaZ rfl rfl ?_)
 refine aP rfl rfl ?_
 refine zab ?_
 refine zaf ?_
 refine zag rfl ?_
 refine zaa ?_
 refine tx ?_
 (first | refine zac zaz rfl rfl ?_ | refine zac zaZ rfl rfl ?_)
 refine aP rfl rfl ?_
 refine zab ?_
 refine zaf ?_
 refine zag rfl ?_
 refine zaa ?_
 refine tx ?_
 refine zac zaZ rfl rfl ?_
 refine aP rfl rfl ?_
 refine zab ?_
 refine zaf ?_
 refine zax rfl ?_
 have hf1 := zeO key port l
 have hf2 := zd5 key port l l'
 have hndW : ((mvW key port l l').map Prod.fst).Nodup := by rw [zd5]; exact mvN_nd _ h7
 have hrest : ∀ o, ((oN pt t n a b ++ mvW key port l l').any fun p => Nat.beq o p.1) = false → updL G (mvW key port l l') o = heap o := fun o ho => by
  rw [List.any_append, Bool.or_eq_false_iff] at ho
  have h1 : o ∉ mvN l.length := fun hm => by
   rw [← hf2] at hm
   obtain ⟨p, hp, rfl⟩ := List.mem_map.1 hm
   have := List.any_eq_false.1 ho.2 p hp
   simp at this
  have h2 := ho.1
  simp only [oN, List.any_cons, List.any_nil, Bool.or_false, Bool.or_eq_false_iff] at h2
  rw [zaR (by rw [hf2]; exact h1)]
  exact gr o h1 (fun e => by subst e; simp at h2) (fun e => by subst e; simp at h2) (fun e => by subst e; simp at h2)
 have hrds : ∀ p ∈ oN pt t n a b ++ mvW key port l l', updL G (mvW key port l l') p.1 = p.2 := fun p hp => by
  rcases List.mem_append.1 hp with hp | hp
  ·have hno : ∀ o, o = 3 ∨ o = 4 ∨ o = 5 → updL G (mvW key port l l') o = G o := fun o ho => zaR (by rw [hf2, zb1]; omega)
   simp only [oN, List.mem_cons, List.not_mem_nil, or_false] at hp
   rcases hp with rfl | rfl | rfl
   ·exact (hno 3 qO).trans g3
   ·exact (hno 4 qO).trans g4
   ·exact (hno 5 qO).trans g5
  ·exact zbY hndW p hp
 clear hall7 hself gr hP hndW
 obtain ⟨N, hN⟩ : ∃ N, l.length = N := ⟨_, rfl⟩
 rw [hN] at hf1 hf2 h6
 have hN6 : N = 0 ∨ N = 1 ∨ N = 2 ∨ N = 3 ∨ N = 4 ∨ N = 5 ∨ N = 6 := by omega
 rcases hN6 with rfl | rfl | rfl | rfl | rfl | rfl | rfl
 all_goals
  (repeat (first | refine zaa ?_ | refine zak ?_ | refine zae ?_ | refine zai ?_ | refine zaI ?_ | refine zaf ?_ | refine zau ?_ | refine zb3 ?_ | refine zbb ?_ | refine zaU ?_ | refine zda ?_ | refine inb_y rfl ?_))
  refine zaB 4 qK ?_
  refine zah (zb2 U9 rfl rfl) rfl rfl ⟨g4, trivial⟩ ?_
  refine zac (zam (r := .ref _ _)) rfl rfl ?_
  refine zah (zb2 U9 rfl rfl) rfl rfl ⟨g4, trivial⟩ ?_
  refine fA za2 rfl rfl ?_
  refine zah (zb8 (es := (ntC (a, b)).map AV.p) U27 rfl sz27 (qE rfl) rfl) rfl rfl ⟨g5, trivial⟩ ?_
  refine r_callO1 hM rfl rfl func54 rfl rfl (zcJ gM) rfl hf1 hf2 ?_
  refine aP rfl rfl ?_
  refine aP rfl rfl ?_
  refine zab ⟨qK, ?_⟩
  (repeat (first | refine zaa ?_ | refine zak ?_ | refine zae ?_ | refine zai ?_ | refine zaI ?_ | refine zaf ?_ | refine zau ?_ | refine zb3 ?_ | refine zbb ?_ | refine zaU ?_ | refine zda ?_ | refine inb_y rfl ?_))
  refine ⟨(by first | exact .inl rfl | exact .inr rfl), ⟨_, (.tmp _ _ _ _ rfl (.tmp _ _ _ _ rfl .nil)), ?_⟩, ?_, ?_⟩
  ·exact rfl
  ·exact zcJ hrds
  ·exact hrest
end Go.Proofs.YtkdfdcodkeclmaaGreatDoor
